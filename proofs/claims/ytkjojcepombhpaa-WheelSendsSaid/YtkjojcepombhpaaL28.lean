-- PRINTED by print.py (a twelfth state) out of the translation. Not trusted: Lean checks it.
import Derived.Test.YtkjojcepombhpaaL0
import Derived.Test.YtkjojcepombhpaaL2
import Derived.Test.YtkjojcepombhpaaL3
import Derived.Test.YtkjojcepombhpaaL4
import Derived.Test.YtkjojcepombhpaaL5
import Derived.Test.YtkjojcepombhpaaL24
import Derived.Test.YtkjojcepombhpaaXBack
import Derived.Test.YtkjojcepombhpaaXSend
namespace Go.Proofs.Ytkjojcepombhpaa.L
open Go.RowKit Go.Proofs.YtkjojcepombhpaaW.PrintWords Go.Proofs.YtkjojcepombhpaaW.PrintLast Go.Proofs.YtkjojcepombhpaaW.PrintMore
attribute [local go_sem] max2_int min2_int max_two min_two max_three min_three max_four min_four   -- for this text's walks alone
set_option linter.unusedVariables false
set_option linter.unusedSimpArgs false

/-! ### remouldlaw06_WheelSends: function 17 -/
mutual
def remouldlaw06_WheelSends.j0 : Nat → Int → Int → Int → List Int → Int → Bool → Int → List Int → List Int → Option (Bool)
  | 0, _, _, _, _, _, _, _, _, _ => none
  | k + 1, x1, x6, x7, x8, x9, x32, x791000, x791001, x791002 => if x32 = true then (if x6 = 0 then (if x7 = 2 then (if (x8.length : Int) = 0 then (if x9 = 2 then ((remouldlaw06_awake.f k).bind fun t799 => (some t799)) else (some false)) else (some false)) else (some false)) else (some false)) else ((remouldref06_Send.f x791000 x791001 x791002 x1).bind fun t800 => ((remouldref06_Large.f t800).bind fun t801 => (if t801 = true then (if x6 = 0 then (if x7 = 5 then (remouldlaw06_WheelSends.j1 k x1 x8 x9 x791000 x791001 x791002) else (some false)) else (some false)) else ((remouldref06_Send.f x791000 x791001 x791002 x1).bind fun t802 => (if x6 = t802 then (if x7 = 0 then (remouldlaw06_WheelSends.j1 k x1 x8 x9 x791000 x791001 x791002) else (some false)) else (some false))))))
def remouldlaw06_WheelSends.j1 : Nat → Int → List Int → Int → Int → List Int → List Int → Option (Bool)
  | 0, _, _, _, _, _, _ => none
  | k + 1, x1, x8, x9, x791000, x791001, x791002 => (remouldref06_Back.f k x791000 x791001 x791002 x1).bind fun bt803 => (if bt803.2 = true then ((remouldlaw06_ints.f k x8 bt803.1).bind fun t807 => (if t807 = true then (if x9 = 0 then ((remouldlaw06_awake.f k).bind fun t808 => (some t808)) else (some false)) else (some false))) else (if (x8.length : Int) = 0 then (if x9 = 5 then ((remouldlaw06_awake.f k).bind fun t809 => (some t809)) else (some false)) else (some false)))
end
def remouldlaw06_WheelSends.f (k : Nat) (a0_0 : Int) (l0_1 : List Int) (l0_2 : List Int) (a1 : Int) : Option (Bool) := (remouldlaw06_rule.f a0_0 l0_1 l0_2).bind fun bt783 => ((wheel_Send.f bt783.1 bt783.2.1 bt783.2.2 a1).bind fun bt791 => ((wheel_Back.f bt783.1 bt783.2.1 bt783.2.2 a1).bind fun bt793 => ((remouldref06_Rule.f k bt783.1 bt783.2.1 bt783.2.2).bind fun t797 => (if t797 = true then ((remouldref06_Large.f a1).bind fun t798 => (remouldlaw06_WheelSends.j0 k a1 bt791.1 bt791.2 bt793.1 bt793.2 t798 bt783.1 bt783.2.1 bt783.2.2)) else (remouldlaw06_WheelSends.j0 k a1 bt791.1 bt791.2 bt793.1 bt793.2 true bt783.1 bt783.2.1 bt783.2.2)))))
theorem remouldlaw06_WheelSends.mono_l : ∀ k, (∀ y0 y1 y2 y3 y4 y5 y6 y7 y8, LeO (remouldlaw06_WheelSends.j0 k y0 y1 y2 y3 y4 y5 y6 y7 y8) (remouldlaw06_WheelSends.j0 (k + 1) y0 y1 y2 y3 y4 y5 y6 y7 y8)) ∧ (∀ y0 y1 y2 y3 y4 y5, LeO (remouldlaw06_WheelSends.j1 k y0 y1 y2 y3 y4 y5) (remouldlaw06_WheelSends.j1 (k + 1) y0 y1 y2 y3 y4 y5))
  | 0 => ⟨fun _ _ _ _ _ _ _ _ _ r h => by simp [remouldlaw06_WheelSends.j0] at h, fun _ _ _ _ _ _ r h => by simp [remouldlaw06_WheelSends.j1] at h⟩
  | k + 1 => by
    obtain ⟨ih0, ih1⟩ := remouldlaw06_WheelSends.mono_l k
    refine ⟨?_, ?_⟩
    · intro y0 y1 y2 y3 y4 y5 y6 y7 y8
      unfold remouldlaw06_WheelSends.j0
      repeat' first
      | (with_reducible exact ih0 _ _ _ _ _ _ _ _ _)
      | (with_reducible exact ih1 _ _ _ _ _ _)
      | (with_reducible exact remouldlaw06_awake.mono _)
      | (with_reducible exact remouldlaw06_ints.mono _ _ _)
      | (with_reducible exact remouldref06_Back.mono _ _ _ _ _)
      | (with_reducible exact remouldref06_Rule.mono _ _ _ _)
      | (with_reducible exact LeO.refl _)
      | (with_reducible exact LeO.none _)
      | (with_reducible refine LeO.ite ?_ ?_)
      | (with_reducible refine LeO.bind ?_ (fun _ => ?_))
      | exact ih0 _ _ _ _ _ _ _ _ _
      | exact ih1 _ _ _ _ _ _
      | exact remouldlaw06_awake.mono _
      | exact remouldlaw06_ints.mono _ _ _
      | exact remouldref06_Back.mono _ _ _ _ _
      | exact remouldref06_Rule.mono _ _ _ _
      | exact LeO.none _
      | refine LeO.ite ?_ ?_
      | refine LeO.bind ?_ (fun _ => ?_)
    · intro y0 y1 y2 y3 y4 y5
      unfold remouldlaw06_WheelSends.j1
      repeat' first
      | (with_reducible exact ih0 _ _ _ _ _ _ _ _ _)
      | (with_reducible exact ih1 _ _ _ _ _ _)
      | (with_reducible exact remouldlaw06_awake.mono _)
      | (with_reducible exact remouldlaw06_ints.mono _ _ _)
      | (with_reducible exact remouldref06_Back.mono _ _ _ _ _)
      | (with_reducible exact remouldref06_Rule.mono _ _ _ _)
      | (with_reducible exact LeO.refl _)
      | (with_reducible exact LeO.none _)
      | (with_reducible refine LeO.ite ?_ ?_)
      | (with_reducible refine LeO.bind ?_ (fun _ => ?_))
      | exact ih0 _ _ _ _ _ _ _ _ _
      | exact ih1 _ _ _ _ _ _
      | exact remouldlaw06_awake.mono _
      | exact remouldlaw06_ints.mono _ _ _
      | exact remouldref06_Back.mono _ _ _ _ _
      | exact remouldref06_Rule.mono _ _ _ _
      | exact LeO.none _
      | refine LeO.ite ?_ ?_
      | refine LeO.bind ?_ (fun _ => ?_)
theorem remouldlaw06_WheelSends.mono : ∀ a0 a1 a2 a3 k, LeO (remouldlaw06_WheelSends.f k a0 a1 a2 a3) (remouldlaw06_WheelSends.f (k + 1) a0 a1 a2 a3) := by
  intro a0 a1 a2 a3 k
  obtain ⟨ih0, ih1⟩ := remouldlaw06_WheelSends.mono_l k
  unfold remouldlaw06_WheelSends.f
  repeat' first
      | (with_reducible exact ih0 _ _ _ _ _ _ _ _ _)
      | (with_reducible exact ih1 _ _ _ _ _ _)
      | (with_reducible exact remouldlaw06_awake.mono _)
      | (with_reducible exact remouldlaw06_ints.mono _ _ _)
      | (with_reducible exact remouldref06_Back.mono _ _ _ _ _)
      | (with_reducible exact remouldref06_Rule.mono _ _ _ _)
      | (with_reducible exact LeO.refl _)
      | (with_reducible exact LeO.none _)
      | (with_reducible refine LeO.ite ?_ ?_)
      | (with_reducible refine LeO.bind ?_ (fun _ => ?_))
      | exact ih0 _ _ _ _ _ _ _ _ _
      | exact ih1 _ _ _ _ _ _
      | exact remouldlaw06_awake.mono _
      | exact remouldlaw06_ints.mono _ _ _
      | exact remouldref06_Back.mono _ _ _ _ _
      | exact remouldref06_Rule.mono _ _ _ _
      | exact LeO.none _
      | refine LeO.ite ?_ ?_
      | refine LeO.bind ?_ (fun _ => ?_)
set_option maxHeartbeats 8000000 in
set_option maxRecDepth 100000 in
theorem remouldlaw06_WheelSends.calls (k : Nat) (a0_0 : Int) (A0_1 : Option Addr) (c0_1 : Nat) (l0_1 : List Int) (A0_2 : Option Addr) (c0_2 : Nat) (l0_2 : List Int) (a1 : Int) (r : Bool) (w : World) (hr0_1 : Kd.C (Kd.int .i64) w A0_1 l0_1.length l0_1) (hc0_1 : l0_1.length ≤ c0_1) (hr0_2 : Kd.C (Kd.int .i64) w A0_2 l0_2.length l0_2) (hc0_2 : l0_2.length ≤ c0_2) (h : remouldlaw06_WheelSends.f k a0_0 l0_1 l0_2 a1 = some r) :
    Calls Try.prog 17 #[.agg #[.int .i64 a0_0, .slice A0_1 l0_1.length c0_1, .slice A0_2 l0_2.length c0_2], .int .i64 a1] w fun e w' => e = .returned (.bool r) ∧ Below w.heap.size w w' := by
  have hu24 := Try.underlying24
  have HR0_1 := Aside0.mk hr0_1
  have HC0_1 := Aside0.mk hc0_1
  clear hr0_1 hc0_1
  have HR0_2 := Aside0.mk hr0_2
  have HC0_2 := Aside0.mk hc0_2
  clear hr0_2 hc0_2
  have HB := Aside0.mk (Below.refl w.heap.size w)
  have H : ((remouldlaw06_rule.f a0_0 l0_1 l0_2).bind fun bt783 => ((wheel_Send.f bt783.1 bt783.2.1 bt783.2.2 a1).bind fun bt791 => ((wheel_Back.f bt783.1 bt783.2.1 bt783.2.2 a1).bind fun bt793 => ((remouldref06_Rule.f k bt783.1 bt783.2.1 bt783.2.2).bind fun t797 => (if t797 = true then ((remouldref06_Large.f a1).bind fun t798 => (remouldlaw06_WheelSends.j0 k a1 bt791.1 bt791.2 bt793.1 bt793.2 t798 bt783.1 bt783.2.1 bt783.2.2)) else (remouldlaw06_WheelSends.j0 k a1 bt791.1 bt791.2 bt793.1 bt793.2 true bt783.1 bt783.2.1 bt783.2.2)))))) = some r := h
  clear h
  replace H := Option.bind_eq_some_iff.mp H
  obtain ⟨⟨t783, t784, t787⟩, A30, H⟩ := H
  replace H : ((wheel_Send.f t783 t784 t787 a1).bind fun bt791 => ((wheel_Back.f t783 t784 t787 a1).bind fun bt793 => ((remouldref06_Rule.f k t783 t784 t787).bind fun t797 => (if t797 = true then ((remouldref06_Large.f a1).bind fun t798 => (remouldlaw06_WheelSends.j0 k a1 bt791.1 bt791.2 bt793.1 bt793.2 t798 t783 t784 t787)) else (remouldlaw06_WheelSends.j0 k a1 bt791.1 bt791.2 bt793.1 bt793.2 true t783 t784 t787))))) = some r := H
  have A3 := Aside0.mk A30
  clear A30
  replace H := Option.bind_eq_some_iff.mp H
  obtain ⟨⟨t791, t792⟩, A40, H⟩ := H
  replace H : ((wheel_Back.f t783 t784 t787 a1).bind fun bt793 => ((remouldref06_Rule.f k t783 t784 t787).bind fun t797 => (if t797 = true then ((remouldref06_Large.f a1).bind fun t798 => (remouldlaw06_WheelSends.j0 k a1 t791 t792 bt793.1 bt793.2 t798 t783 t784 t787)) else (remouldlaw06_WheelSends.j0 k a1 t791 t792 bt793.1 bt793.2 true t783 t784 t787)))) = some r := H
  have A4 := Aside0.mk A40
  clear A40
  replace H := Option.bind_eq_some_iff.mp H
  obtain ⟨⟨t793, t796⟩, A50, H⟩ := H
  replace H : ((remouldref06_Rule.f k t783 t784 t787).bind fun t797 => (if t797 = true then ((remouldref06_Large.f a1).bind fun t798 => (remouldlaw06_WheelSends.j0 k a1 t791 t792 t793 t796 t798 t783 t784 t787)) else (remouldlaw06_WheelSends.j0 k a1 t791 t792 t793 t796 true t783 t784 t787))) = some r := H
  have A5 := Aside0.mk A50
  clear A50
  have HC6 := Aside0.mk H
  clear H
  go_enter Try.func17, Try.ntmps17
  go_upto_region 4 with (first | ((with_reducible refine gate_dst (N := 2) rfl ?_); (try (refine gate_guard (by rfl) ?_; dsimp only)); refine box_event ?hg (N := 2) ?hd (cs := #[.int .i64 a0_0, .slice A0_1 l0_1.length c0_1, .slice A0_2 l0_2.length c0_2]) (t := 24) ?hr ?_; (case hd => rfl); (case hg => rfl); (case hr => first | (go_simp; done) | (go_simp; rfl)); intro gb782 hg w7 hbox hb; have n0_ := Aside0.mk (below_step (by repeat (first | (with_reducible first | exact HB.out | apply below_alloc | apply pw_below_drewN | apply below_drew1) | exact HB.out)) hb); have n1_ := Aside0.mk (hbox); have n2_ := Aside0.mk ((by rw [hg]; exact (below_size (by repeat (first | (with_reducible first | exact HB.out | apply below_alloc | apply pw_below_drewN | apply below_drew1) | exact HB.out))) : w.heap.size ≤ gb782)); have n3_ := Aside0.mk ((by rw [hg]; exact (below_size (by repeat (first | (with_reducible first | exact HB.out | apply below_alloc | apply pw_below_drewN | apply below_drew1) | exact HB.out))) : w.heap.size ≤ gb782)); clear HB; have HB := n0_; have BK782 := n1_; have GW782 := n2_; have GE782 := n3_; clear n0_ n1_ n2_ n3_; clear hb hbox hg; have hcz8_0 : w7.cell? ⟨gb782, 0, none⟩ = some (.int .i64 a0_0) := (blk_cell BK782.out 0).trans rfl; have hcz8_1 : w7.cell? ⟨gb782, 1, none⟩ = some (.slice A0_1 l0_1.length c0_1) := (blk_cell BK782.out 1).trans rfl; have hcz8_2 : w7.cell? ⟨gb782, 2, none⟩ = some (.slice A0_2 l0_2.length c0_2) := (blk_cell BK782.out 2).trans rfl; have hfz8_0 := blk_frozen BK782.out 0; have hfz8_1 := blk_frozen BK782.out 1; have hfz8_2 := blk_frozen BK782.out 2) | ((with_reducible refine gate_callee (f := 23) rfl ?_); refine goesL_ (some 13) rfl rfl Try.func23 (by kernel_rfl) rfl #[.agg #[.int .i64 a0_0, .slice A0_1 l0_1.length c0_1, .slice A0_2 l0_2.length c0_2]] rfl (by (try simp only [List.map_toArray, List.map_cons, List.map_nil]); first | done | rfl | (simp only [List.length_drop, List.length_take]; rfl)) ?_; (with_reducible refine (remouldlaw06_rule.calls a0_0 _ _ l0_1 _ _ l0_2 t783 t784 t787 _ ?side1 ?side2 ?side3 ?side4 A3.out).mono ?_); (case side1 => repeat (first | exact (Kd.C_below HR0_1.out HB.out) | (with_reducible refine Kd.C_alloc ?_ _) | (with_reducible refine Kd.C_drewN ?_ _) | (with_reducible refine Kd.C_drew ?_))); (case side2 => exact HC0_1.out); (case side3 => repeat (first | exact (Kd.C_below HR0_2.out HB.out) | (with_reducible refine Kd.C_alloc ?_ _) | (with_reducible refine Kd.C_drewN ?_ _) | (with_reducible refine Kd.C_drew ?_))); (case side4 => exact HC0_2.out); rintro e w9 ⟨v785, v788, rfl, ho0, ho1, hb⟩; refine ⟨_, rfl, ?_⟩; have n0_ := Aside0.mk (Kd.R_lower ho0 (below_size (by repeat (first | (with_reducible first | exact HB.out | apply below_alloc | apply pw_below_drewN | apply below_drew1 | refine below_set ?_ GE782.out) | exact HB.out)))); have n1_ := Aside0.mk (Kd.R_lower ho1 (below_size (by repeat (first | (with_reducible first | exact HB.out | apply below_alloc | apply pw_below_drewN | apply below_drew1 | refine below_set ?_ GE782.out) | exact HB.out)))); have n2_ := Aside0.mk (blk_below (g := gb782) (o := .cells #[.int .i64 a0_0, .slice A0_1 l0_1.length c0_1, .slice A0_2 l0_2.length c0_2] 24 (0, 0)) (by (with_reducible repeat (first | refine blk_drewN ?_ _ | refine blk_drew ?_ | refine blk_alloc ?_ _)); exact BK782.out) hb); have n3_ := Aside0.mk (below_step (by repeat (first | (with_reducible first | exact HB.out | apply below_alloc | apply pw_below_drewN | apply below_drew1 | refine below_set ?_ GE782.out) | exact HB.out)) hb); clear BK782; clear HB; have HO786 := n0_; have HO789 := n1_; have BK782 := n2_; have HB := n3_; clear n0_ n1_ n2_ n3_; (try clear hb); (try clear hb2); (try clear hk); (try clear hi); (try clear ho0); (try clear ho1)) | ((with_reducible refine gate_dst (N := 5) rfl ?_); (try (refine gate_guard (by rfl) ?_; dsimp only)); refine box_event ?hg (N := 5) ?hd (cs := #[.int .i64 0, .slice none 0 0, .slice none 0 0]) (t := 24) ?hr ?_; (case hd => rfl); (case hg => rfl); (case hr => first | (go_simp; done) | (go_simp; rfl)); intro gb790 hg w10 hbox hb; have n0_ := Aside0.mk (Kd.R_below (by (with_reducible repeat (first | apply Kd.R_alloc | apply Kd.R_drewN | apply Kd.R_drew)); exact HO786.out) hb); have n1_ := Aside0.mk (Kd.R_below (by (with_reducible repeat (first | apply Kd.R_alloc | apply Kd.R_drewN | apply Kd.R_drew)); exact HO789.out) hb); have n2_ := Aside0.mk (blk_below (g := gb782) (o := .cells #[.int .i64 a0_0, .slice A0_1 l0_1.length c0_1, .slice A0_2 l0_2.length c0_2] 24 (0, 0)) (by (with_reducible repeat (first | refine blk_drewN ?_ _ | refine blk_drew ?_ | refine blk_alloc ?_ _)); exact BK782.out) hb); have n3_ := Aside0.mk (below_step (by repeat (first | (with_reducible first | exact HB.out | apply below_alloc | apply pw_below_drewN | apply below_drew1 | refine below_set ?_ GE782.out) | exact HB.out)) hb); have n4_ := Aside0.mk (hbox); have n5_ := Aside0.mk ((by rw [hg]; exact (below_size (by repeat (first | (with_reducible first | exact HB.out | apply below_alloc | apply pw_below_drewN | apply below_drew1 | refine below_set ?_ GE782.out) | exact HB.out))) : w.heap.size ≤ gb790)); have n6_ := Aside0.mk ((by rw [hg]; exact (below_size (by repeat (first | (with_reducible first | exact HB.out | apply below_alloc | apply pw_below_drewN | apply below_drew1 | refine below_set ?_ GE782.out) | exact HB.out))) : w.heap.size ≤ gb790)); have n7_ := Aside0.mk ((by rw [hg]; exact Nat.ne_of_lt (blk_lt (g := gb782) (o := .cells #[.int .i64 a0_0, .slice A0_1 l0_1.length c0_1, .slice A0_2 l0_2.length c0_2] 24 (0, 0)) (by (with_reducible repeat (first | refine blk_drewN ?_ _ | refine blk_drew ?_ | refine blk_alloc ?_ _)); exact BK782.out)) : gb782 ≠ gb790)); have n8_ := Aside0.mk ((by rw [hg]; exact Nat.ne_of_gt (blk_lt (g := gb782) (o := .cells #[.int .i64 a0_0, .slice A0_1 l0_1.length c0_1, .slice A0_2 l0_2.length c0_2] 24 (0, 0)) (by (with_reducible repeat (first | refine blk_drewN ?_ _ | refine blk_drew ?_ | refine blk_alloc ?_ _)); exact BK782.out)) : gb790 ≠ gb782)); clear HO786; clear HO789; clear BK782; clear HB; have HO786 := n0_; have HO789 := n1_; have BK782 := n2_; have HB := n3_; have BK790 := n4_; have GW790 := n5_; have GE790 := n6_; have NB782_790 := n7_; have NB790_782 := n8_; clear n0_ n1_ n2_ n3_ n4_ n5_ n6_ n7_ n8_; clear hb hbox hg; have hnb11 := NB790_782.out; have hnc11 := NB782_790.out; have hcz12_0 : w10.cell? ⟨gb790, 0, none⟩ = some (.int .i64 0) := (blk_cell BK790.out 0).trans rfl; have hcz12_1 : w10.cell? ⟨gb790, 1, none⟩ = some (.slice none 0 0) := (blk_cell BK790.out 1).trans rfl; have hcz12_2 : w10.cell? ⟨gb790, 2, none⟩ = some (.slice none 0 0) := (blk_cell BK790.out 2).trans rfl; have hfz12_0 := blk_frozen BK790.out 0; have hfz12_1 := blk_frozen BK790.out 1; have hfz12_2 := blk_frozen BK790.out 2; obtain ⟨Ao13, co13, eo13⟩ := Kd.R_slice HO786.out; subst eo13; obtain ⟨Ao14, co14, eo14⟩ := Kd.R_slice HO789.out; subst eo14) | ((with_reducible refine gate_callee (f := 47) rfl ?_); refine goesL_ (some 17) rfl rfl Try.func47 (by kernel_rfl) rfl #[.agg #[.int .i64 t783, .slice Ao13 t784.length co13, .slice Ao14 t787.length co14], .int .i64 a1] rfl (by (try simp only [List.map_toArray, List.map_cons, List.map_nil]); first | done | rfl | (simp only [List.length_drop, List.length_take]; rfl)) ?_; (with_reducible refine (wheel_Send.calls t783 _ _ t784 _ _ t787 a1 t791 t792 _ ?side1 ?side2 ?side3 ?side4 A4.out).mono ?_); (case side1 => refine (Kd.R_reads' (e := 3) (base := w.heap.size) (ok := fun k_ => some k_ ≠ (.slice Ao14 t787.length co14 : Value).ownBlock) (n := t784.length) (c := co13) ?_).2.2; exact (by (with_reducible repeat (first | apply Kd.R_alloc | apply Kd.R_drewN | apply Kd.R_drew)); exact (Kd.R_mono (Kd.R_far (p := ⟨gb790, 2, none⟩) (Kd.R_far (p := ⟨gb790, 1, none⟩) (Kd.R_far (p := ⟨gb790, 0, none⟩) (Kd.R_types HO786.out BK790.out (by decide)) (fun _ hk => hk.2) (.int .i64 t783)) (fun _ hk => hk.2) (.slice Ao13 t784.length co13)) (fun _ hk => hk.2) (.slice Ao14 t787.length co14)) (fun _ h_ => h_.1)))); (case side2 => exact (Kd.R_reads' HO786.out).2.1); (case side3 => refine (Kd.R_reads' (e := 3) (base := w.heap.size) (ok := fun k_ => some k_ ≠ (.slice Ao13 t784.length co13 : Value).ownBlock) (n := t787.length) (c := co14) ?_).2.2; exact (by (with_reducible repeat (first | apply Kd.R_alloc | apply Kd.R_drewN | apply Kd.R_drew)); exact (Kd.R_mono (Kd.R_far (p := ⟨gb790, 2, none⟩) (Kd.R_far (p := ⟨gb790, 1, none⟩) (Kd.R_far (p := ⟨gb790, 0, none⟩) (Kd.R_types HO789.out BK790.out (by decide)) (fun _ hk => hk.2) (.int .i64 t783)) (fun _ hk => hk.2) (.slice Ao13 t784.length co13)) (fun _ hk => hk.2) (.slice Ao14 t787.length co14)) (fun _ h_ => h_.1)))); (case side4 => exact (Kd.R_reads' HO789.out).2.1); rintro e w15 ⟨rfl, hb⟩; refine ⟨_, rfl, ?_⟩; have n0_ := Aside0.mk (Kd.R_below (by (with_reducible repeat (first | apply Kd.R_alloc | apply Kd.R_drewN | apply Kd.R_drew)); exact (Kd.R_mono (Kd.R_far (p := ⟨gb790, 2, none⟩) (Kd.R_far (p := ⟨gb790, 1, none⟩) (Kd.R_far (p := ⟨gb790, 0, none⟩) (Kd.R_types HO786.out BK790.out (by decide)) (fun _ hk => hk.2) (.int .i64 t783)) (fun _ hk => hk.2) (.slice Ao13 t784.length co13)) (fun _ hk => hk.2) (.slice Ao14 t787.length co14)) (fun _ h_ => h_.1))) hb); have n1_ := Aside0.mk (Kd.R_below (by (with_reducible repeat (first | apply Kd.R_alloc | apply Kd.R_drewN | apply Kd.R_drew)); exact (Kd.R_mono (Kd.R_far (p := ⟨gb790, 2, none⟩) (Kd.R_far (p := ⟨gb790, 1, none⟩) (Kd.R_far (p := ⟨gb790, 0, none⟩) (Kd.R_types HO789.out BK790.out (by decide)) (fun _ hk => hk.2) (.int .i64 t783)) (fun _ hk => hk.2) (.slice Ao13 t784.length co13)) (fun _ hk => hk.2) (.slice Ao14 t787.length co14)) (fun _ h_ => h_.1))) hb); have n2_ := Aside0.mk (blk_below (g := gb782) (o := .cells #[.int .i64 a0_0, .slice A0_1 l0_1.length c0_1, .slice A0_2 l0_2.length c0_2] 24 (0, 0)) (by (with_reducible repeat (first | refine blk_drewN ?_ _ | refine blk_drew ?_ | refine blk_alloc ?_ _)); refine blk_far ?_ NB782_790.out _; (with_reducible repeat (first | refine blk_drewN ?_ _ | refine blk_drew ?_ | refine blk_alloc ?_ _)); refine blk_far ?_ NB782_790.out _; (with_reducible repeat (first | refine blk_drewN ?_ _ | refine blk_drew ?_ | refine blk_alloc ?_ _)); refine blk_far ?_ NB782_790.out _; (with_reducible repeat (first | refine blk_drewN ?_ _ | refine blk_drew ?_ | refine blk_alloc ?_ _)); exact BK782.out) hb); have n3_ := Aside0.mk (blk_below (g := gb790) (o := .cells #[.int .i64 t783, .slice Ao13 t784.length co13, .slice Ao14 t787.length co14] 24 (0, 0)) (by (with_reducible repeat (first | refine blk_drewN ?_ _ | refine blk_drew ?_ | refine blk_alloc ?_ _)); refine blk_put (cs := #[.int .i64 t783, .slice Ao13 t784.length co13, .slice none 0 0]) ?_ 2 _ rfl; (with_reducible repeat (first | refine blk_drewN ?_ _ | refine blk_drew ?_ | refine blk_alloc ?_ _)); refine blk_put (cs := #[.int .i64 t783, .slice none 0 0, .slice none 0 0]) ?_ 1 _ rfl; (with_reducible repeat (first | refine blk_drewN ?_ _ | refine blk_drew ?_ | refine blk_alloc ?_ _)); refine blk_put (cs := #[.int .i64 0, .slice none 0 0, .slice none 0 0]) ?_ 0 _ rfl; (with_reducible repeat (first | refine blk_drewN ?_ _ | refine blk_drew ?_ | refine blk_alloc ?_ _)); exact BK790.out) hb); have n4_ := Aside0.mk (below_step (by repeat (first | (with_reducible first | exact HB.out | apply below_alloc | apply pw_below_drewN | apply below_drew1 | refine below_set ?_ GE782.out | refine below_set ?_ GE790.out) | exact HB.out)) hb); clear HO786; clear HO789; clear BK782; clear BK790; clear HB; have HO786 := n0_; have HO789 := n1_; have BK782 := n2_; have BK790 := n3_; have HB := n4_; clear n0_ n1_ n2_ n3_ n4_; (try clear hb); (try clear hb2); (try clear hk); (try clear hi); have hcz16_0 : w15.cell? ⟨gb790, 0, none⟩ = some (.int .i64 t783) := (blk_cell BK790.out 0).trans rfl; have hcz16_1 : w15.cell? ⟨gb790, 1, none⟩ = some (.slice Ao13 t784.length co13) := (blk_cell BK790.out 1).trans rfl; have hcz16_2 : w15.cell? ⟨gb790, 2, none⟩ = some (.slice Ao14 t787.length co14) := (blk_cell BK790.out 2).trans rfl; have hfz16_0 := blk_frozen BK790.out 0; have hfz16_1 := blk_frozen BK790.out 1; have hfz16_2 := blk_frozen BK790.out 2) | ((with_reducible refine gate_callee (f := 53) rfl ?_); refine goesL_ (some 23) rfl rfl Try.func53 (by kernel_rfl) rfl #[.agg #[.int .i64 t783, .slice Ao13 t784.length co13, .slice Ao14 t787.length co14], .int .i64 a1] rfl (by (try simp only [List.map_toArray, List.map_cons, List.map_nil]); first | done | rfl | (simp only [List.length_drop, List.length_take]; rfl)) ?_; (with_reducible refine (wheel_Back.calls t783 _ _ t784 _ _ t787 a1 t793 t796 _ ?side1 ?side2 ?side3 ?side4 A5.out).mono ?_); (case side1 => repeat (first | exact (Kd.R_reads' HO786.out).2.2 | (with_reducible refine Kd.C_alloc ?_ _) | (with_reducible refine Kd.C_drewN ?_ _) | (with_reducible refine Kd.C_drew ?_))); (case side2 => exact (Kd.R_reads' HO786.out).2.1); (case side3 => repeat (first | exact (Kd.R_reads' HO789.out).2.2 | (with_reducible refine Kd.C_alloc ?_ _) | (with_reducible refine Kd.C_drewN ?_ _) | (with_reducible refine Kd.C_drew ?_))); (case side4 => exact (Kd.R_reads' HO789.out).2.1); rintro e w17 ⟨v794, rfl, ho0, hb⟩; refine ⟨_, rfl, ?_⟩; have n0_ := Aside0.mk (Kd.R_elder' (by (with_reducible repeat (first | apply Kd.R_alloc | apply Kd.R_drewN | apply Kd.R_drew)); exact HO786.out) (Kd.R_base ho0) hb); have n1_ := Aside0.mk (Kd.R_elder' (by (with_reducible repeat (first | apply Kd.R_alloc | apply Kd.R_drewN | apply Kd.R_drew)); exact HO789.out) (Kd.R_base ho0) hb); have n2_ := Aside0.mk (Kd.R_lower (Kd.R_new' (Kd.R_new' ho0 (Kd.R_lt (by (with_reducible repeat (first | apply Kd.R_alloc | apply Kd.R_drewN | apply Kd.R_drew)); exact HO786.out))) (Kd.R_lt (by (with_reducible repeat (first | apply Kd.R_alloc | apply Kd.R_drewN | apply Kd.R_drew)); exact HO789.out))) (below_size (by repeat (first | (with_reducible first | exact HB.out | apply below_alloc | apply pw_below_drewN | apply below_drew1 | refine below_set ?_ GE782.out | refine below_set ?_ GE790.out) | exact HB.out)))); have n3_ := Aside0.mk (blk_below (g := gb782) (o := .cells #[.int .i64 a0_0, .slice A0_1 l0_1.length c0_1, .slice A0_2 l0_2.length c0_2] 24 (0, 0)) (by (with_reducible repeat (first | refine blk_drewN ?_ _ | refine blk_drew ?_ | refine blk_alloc ?_ _)); exact BK782.out) hb); have n4_ := Aside0.mk (blk_below (g := gb790) (o := .cells #[.int .i64 t783, .slice Ao13 t784.length co13, .slice Ao14 t787.length co14] 24 (0, 0)) (by (with_reducible repeat (first | refine blk_drewN ?_ _ | refine blk_drew ?_ | refine blk_alloc ?_ _)); exact BK790.out) hb); have n5_ := Aside0.mk (below_step (by repeat (first | (with_reducible first | exact HB.out | apply below_alloc | apply pw_below_drewN | apply below_drew1 | refine below_set ?_ GE782.out | refine below_set ?_ GE790.out) | exact HB.out)) hb); clear HO786; clear HO789; clear BK782; clear BK790; clear HB; have HO786 := n0_; have HO789 := n1_; have HO795 := n2_; have BK782 := n3_; have BK790 := n4_; have HB := n5_; clear n0_ n1_ n2_ n3_ n4_ n5_; (try clear hb); (try clear hb2); (try clear hk); (try clear hi); (try clear ho0)))
  (try simp only [Act.put, List.setIfInBounds_toArray, List.set_cons_zero, List.set_cons_succ])
  go_cut [32] (fun v32 wc => ∃ (kq : Nat) (x32_5 : Bool), v32 = .bool x32_5 ∧ Aside0 (remouldlaw06_WheelSends.j0 kq a1 t791 t792 t793 t796 x32_5 t783 t784 t787 = some r) ∧ Aside0 (kq ≤ k) ∧ Aside0 (Kd.R (Kd.int .i64) 3 wc w.heap.size (fun k_ => some k_ ≠ ((.slice Ao13 t784.length co13) : Value).ownBlock ∧ some k_ ≠ ((.slice Ao14 t787.length co14) : Value).ownBlock) v794 t793) ∧ Aside0 (Kd.R (Kd.int .i64) 3 wc w.heap.size (fun k_ => some k_ ≠ (v794 : Value).ownBlock ∧ some k_ ≠ ((.slice Ao14 t787.length co14) : Value).ownBlock) (.slice Ao13 t784.length co13) t784) ∧ Aside0 (Kd.R (Kd.int .i64) 3 wc w.heap.size (fun k_ => some k_ ≠ (v794 : Value).ownBlock ∧ some k_ ≠ ((.slice Ao13 t784.length co13) : Value).ownBlock) (.slice Ao14 t787.length co14) t787) ∧ Aside0 (wc.heap[gb782]? = some (.cells #[.int .i64 a0_0, (.slice A0_1 l0_1.length c0_1), (.slice A0_2 l0_2.length c0_2)] 24 (0, 0))) ∧ Aside0 (wc.heap[gb790]? = some (.cells #[.int .i64 t783, (.slice Ao13 t784.length co13), (.slice Ao14 t787.length co14)] 24 (0, 0))) ∧ Aside0 (Below w.heap.size w wc))
  case first =>
    have H := HC6.out
    clear HC6
    replace H := Option.bind_eq_some_iff.mp H
    obtain ⟨t797, A180, H⟩ := H
    replace H : (if t797 = true then ((remouldref06_Large.f a1).bind fun t798 => (remouldlaw06_WheelSends.j0 k a1 t791 t792 t793 t796 t798 t783 t784 t787)) else (remouldlaw06_WheelSends.j0 k a1 t791 t792 t793 t796 true t783 t784 t787)) = some r := H
    have A18 := Aside0.mk A180
    clear A180
    by_cases c19 : t797 = true
    · subst c19
      have H1 : ((remouldref06_Large.f a1).bind fun t798 => (remouldlaw06_WheelSends.j0 k a1 t791 t792 t793 t796 t798 t783 t784 t787)) = some r := by rw [if_pos rfl] at H; exact H
      clear H
      have H := H1
      clear H1
      replace H := Option.bind_eq_some_iff.mp H
      obtain ⟨t798, A200, H⟩ := H
      replace H : (remouldlaw06_WheelSends.j0 k a1 t791 t792 t793 t796 t798 t783 t784 t787) = some r := H
      have A20 := Aside0.mk A200
      clear A200
      have H' := Aside0.mk H
      clear H
      have hnb21 := NB790_782.out
      have hnc21 := NB782_790.out
      have hcz22_0 : w17.cell? ⟨gb790, 0, none⟩ = some (.int .i64 t783) := (blk_cell BK790.out 0).trans rfl
      have hcz22_1 : w17.cell? ⟨gb790, 1, none⟩ = some (.slice Ao13 t784.length co13) := (blk_cell BK790.out 1).trans rfl
      have hcz22_2 : w17.cell? ⟨gb790, 2, none⟩ = some (.slice Ao14 t787.length co14) := (blk_cell BK790.out 2).trans rfl
      have hfz22_0 := blk_frozen BK790.out 0
      have hfz22_1 := blk_frozen BK790.out 1
      have hfz22_2 := blk_frozen BK790.out 2
      go_wp2_with (first | ((with_reducible refine gate_callee (f := 25) rfl ?_); refine goesL_ (some 27) rfl rfl Try.func25 (by kernel_rfl) rfl #[.agg #[.int .i64 t783, .slice Ao13 t784.length co13, .slice Ao14 t787.length co14]] rfl (by (try simp only [List.map_toArray, List.map_cons, List.map_nil]); first | done | rfl | (simp only [List.length_drop, List.length_take]; rfl)) ?_; (with_reducible refine (remouldref06_Rule.calls k t783 _ _ t784 _ _ t787 true _ ?side1 ?side2 ?side3 ?side4 A18.out).mono ?_); (case side1 => repeat (first | exact (Kd.R_reads' HO786.out).2.2 | (with_reducible refine Kd.C_alloc ?_ _) | (with_reducible refine Kd.C_drewN ?_ _) | (with_reducible refine Kd.C_drew ?_))); (case side2 => exact (Kd.R_reads' HO786.out).2.1); (case side3 => repeat (first | exact (Kd.R_reads' HO789.out).2.2 | (with_reducible refine Kd.C_alloc ?_ _) | (with_reducible refine Kd.C_drewN ?_ _) | (with_reducible refine Kd.C_drew ?_))); (case side4 => exact (Kd.R_reads' HO789.out).2.1); rintro e w23 ⟨rfl, hb⟩; refine ⟨_, rfl, ?_⟩; have n0_ := Aside0.mk (Kd.R_below (by (with_reducible repeat (first | apply Kd.R_alloc | apply Kd.R_drewN | apply Kd.R_drew)); exact HO786.out) hb); have n1_ := Aside0.mk (Kd.R_below (by (with_reducible repeat (first | apply Kd.R_alloc | apply Kd.R_drewN | apply Kd.R_drew)); exact HO789.out) hb); have n2_ := Aside0.mk (Kd.R_below (by (with_reducible repeat (first | apply Kd.R_alloc | apply Kd.R_drewN | apply Kd.R_drew)); exact HO795.out) hb); have n3_ := Aside0.mk (blk_below (g := gb782) (o := .cells #[.int .i64 a0_0, .slice A0_1 l0_1.length c0_1, .slice A0_2 l0_2.length c0_2] 24 (0, 0)) (by (with_reducible repeat (first | refine blk_drewN ?_ _ | refine blk_drew ?_ | refine blk_alloc ?_ _)); exact BK782.out) hb); have n4_ := Aside0.mk (blk_below (g := gb790) (o := .cells #[.int .i64 t783, .slice Ao13 t784.length co13, .slice Ao14 t787.length co14] 24 (0, 0)) (by (with_reducible repeat (first | refine blk_drewN ?_ _ | refine blk_drew ?_ | refine blk_alloc ?_ _)); exact BK790.out) hb); have n5_ := Aside0.mk (below_step (by repeat (first | (with_reducible first | exact HB.out | apply below_alloc | apply pw_below_drewN | apply below_drew1 | refine below_set ?_ GE782.out | refine below_set ?_ GE790.out) | exact HB.out)) hb); clear HO786; clear HO789; clear HO795; clear BK782; clear BK790; clear HB; have HO786 := n0_; have HO789 := n1_; have HO795 := n2_; have BK782 := n3_; have BK790 := n4_; have HB := n5_; clear n0_ n1_ n2_ n3_ n4_ n5_; (try clear hb); (try clear hb2); (try clear hk); (try clear hi)) | (go_at_call 26; (with_reducible refine (remouldref06_Large.calls a1 t798 _ A20.out).mono ?_); rintro e w' ⟨rfl, ⟨nd, rfl⟩⟩))
      go_meet
      case rel => exact ⟨_, (t798), (by first | rfl | (simp; done) | (simp [*]; done)), H', ⟨by first | omega | exact Nat.le_refl _⟩, ⟨by (with_reducible repeat (first | apply Kd.R_alloc | apply Kd.R_drewN | apply Kd.R_drew)); exact Kd.R_mono HO795.out (fun _ hk => ⟨hk.1.2, hk.2⟩)⟩, ⟨by (with_reducible repeat (first | apply Kd.R_alloc | apply Kd.R_drewN | apply Kd.R_drew)); exact Kd.R_mono HO786.out (fun _ hk => ⟨hk.2, hk.1⟩)⟩, ⟨by (with_reducible repeat (first | apply Kd.R_alloc | apply Kd.R_drewN | apply Kd.R_drew)); exact Kd.R_mono HO789.out (fun _ hk => ⟨hk.2, hk.1⟩)⟩, ⟨by (with_reducible repeat (first | refine blk_drewN ?_ _ | refine blk_drew ?_ | refine blk_alloc ?_ _)); exact BK782.out⟩, ⟨by (with_reducible repeat (first | refine blk_drewN ?_ _ | refine blk_drew ?_ | refine blk_alloc ?_ _)); exact BK790.out⟩, ⟨by repeat (first | (with_reducible first | exact HB.out | apply below_alloc | apply pw_below_drewN | apply below_drew1 | refine below_set ?_ GE782.out | refine below_set ?_ GE790.out) | exact HB.out)⟩⟩
    · replace c19 := Bool.eq_false_iff.mpr c19
      subst c19
      have H1 : (remouldlaw06_WheelSends.j0 k a1 t791 t792 t793 t796 true t783 t784 t787) = some r := by rw [if_neg (show ¬ (false = true) by decide)] at H; exact H
      clear H
      have H := H1
      clear H1
      have H' := Aside0.mk H
      clear H
      have hnb24 := NB790_782.out
      have hnc24 := NB782_790.out
      have hcz25_0 : w17.cell? ⟨gb790, 0, none⟩ = some (.int .i64 t783) := (blk_cell BK790.out 0).trans rfl
      have hcz25_1 : w17.cell? ⟨gb790, 1, none⟩ = some (.slice Ao13 t784.length co13) := (blk_cell BK790.out 1).trans rfl
      have hcz25_2 : w17.cell? ⟨gb790, 2, none⟩ = some (.slice Ao14 t787.length co14) := (blk_cell BK790.out 2).trans rfl
      have hfz25_0 := blk_frozen BK790.out 0
      have hfz25_1 := blk_frozen BK790.out 1
      have hfz25_2 := blk_frozen BK790.out 2
      go_wp2_with (first | ((with_reducible refine gate_callee (f := 25) rfl ?_); refine goesL_ (some 27) rfl rfl Try.func25 (by kernel_rfl) rfl #[.agg #[.int .i64 t783, .slice Ao13 t784.length co13, .slice Ao14 t787.length co14]] rfl (by (try simp only [List.map_toArray, List.map_cons, List.map_nil]); first | done | rfl | (simp only [List.length_drop, List.length_take]; rfl)) ?_; (with_reducible refine (remouldref06_Rule.calls k t783 _ _ t784 _ _ t787 false _ ?side1 ?side2 ?side3 ?side4 A18.out).mono ?_); (case side1 => repeat (first | exact (Kd.R_reads' HO786.out).2.2 | (with_reducible refine Kd.C_alloc ?_ _) | (with_reducible refine Kd.C_drewN ?_ _) | (with_reducible refine Kd.C_drew ?_))); (case side2 => exact (Kd.R_reads' HO786.out).2.1); (case side3 => repeat (first | exact (Kd.R_reads' HO789.out).2.2 | (with_reducible refine Kd.C_alloc ?_ _) | (with_reducible refine Kd.C_drewN ?_ _) | (with_reducible refine Kd.C_drew ?_))); (case side4 => exact (Kd.R_reads' HO789.out).2.1); rintro e w26 ⟨rfl, hb⟩; refine ⟨_, rfl, ?_⟩; have n0_ := Aside0.mk (Kd.R_below (by (with_reducible repeat (first | apply Kd.R_alloc | apply Kd.R_drewN | apply Kd.R_drew)); exact HO786.out) hb); have n1_ := Aside0.mk (Kd.R_below (by (with_reducible repeat (first | apply Kd.R_alloc | apply Kd.R_drewN | apply Kd.R_drew)); exact HO789.out) hb); have n2_ := Aside0.mk (Kd.R_below (by (with_reducible repeat (first | apply Kd.R_alloc | apply Kd.R_drewN | apply Kd.R_drew)); exact HO795.out) hb); have n3_ := Aside0.mk (blk_below (g := gb782) (o := .cells #[.int .i64 a0_0, .slice A0_1 l0_1.length c0_1, .slice A0_2 l0_2.length c0_2] 24 (0, 0)) (by (with_reducible repeat (first | refine blk_drewN ?_ _ | refine blk_drew ?_ | refine blk_alloc ?_ _)); exact BK782.out) hb); have n4_ := Aside0.mk (blk_below (g := gb790) (o := .cells #[.int .i64 t783, .slice Ao13 t784.length co13, .slice Ao14 t787.length co14] 24 (0, 0)) (by (with_reducible repeat (first | refine blk_drewN ?_ _ | refine blk_drew ?_ | refine blk_alloc ?_ _)); exact BK790.out) hb); have n5_ := Aside0.mk (below_step (by repeat (first | (with_reducible first | exact HB.out | apply below_alloc | apply pw_below_drewN | apply below_drew1 | refine below_set ?_ GE782.out | refine below_set ?_ GE790.out) | exact HB.out)) hb); clear HO786; clear HO789; clear HO795; clear BK782; clear BK790; clear HB; have HO786 := n0_; have HO789 := n1_; have HO795 := n2_; have BK782 := n3_; have BK790 := n4_; have HB := n5_; clear n0_ n1_ n2_ n3_ n4_ n5_; (try clear hb); (try clear hb2); (try clear hk); (try clear hi)))
      go_meet
      case rel => exact ⟨_, (true), (by first | rfl | (simp; done) | (simp [*]; done)), H', ⟨by first | omega | exact Nat.le_refl _⟩, ⟨by (with_reducible repeat (first | apply Kd.R_alloc | apply Kd.R_drewN | apply Kd.R_drew)); exact Kd.R_mono HO795.out (fun _ hk => ⟨hk.1.2, hk.2⟩)⟩, ⟨by (with_reducible repeat (first | apply Kd.R_alloc | apply Kd.R_drewN | apply Kd.R_drew)); exact Kd.R_mono HO786.out (fun _ hk => ⟨hk.2, hk.1⟩)⟩, ⟨by (with_reducible repeat (first | apply Kd.R_alloc | apply Kd.R_drewN | apply Kd.R_drew)); exact Kd.R_mono HO789.out (fun _ hk => ⟨hk.2, hk.1⟩)⟩, ⟨by (with_reducible repeat (first | refine blk_drewN ?_ _ | refine blk_drew ?_ | refine blk_alloc ?_ _)); exact BK782.out⟩, ⟨by (with_reducible repeat (first | refine blk_drewN ?_ _ | refine blk_drew ?_ | refine blk_alloc ?_ _)); exact BK790.out⟩, ⟨by repeat (first | (with_reducible first | exact HB.out | apply below_alloc | apply pw_below_drewN | apply below_drew1 | refine below_set ?_ GE782.out | refine below_set ?_ GE790.out) | exact HB.out)⟩⟩
  case rest =>
    clear HC6
    try clear c1
    try clear c2
    try clear p2
    try clear c4
    try clear c5
    try clear c11
    try clear c17
    try clear c19
    try clear c21
    try clear c23
    try clear c24
    try clear c25
    try clear hcz12_0
    try clear hcz12_1
    try clear hcz12_2
    try clear hcz16_0
    try clear hcz16_1
    try clear hcz16_2
    try clear hcz22_0
    try clear hcz22_1
    try clear hcz22_2
    try clear hcz25_0
    try clear hcz25_1
    try clear hcz25_2
    try clear hcz8_0
    try clear hcz8_1
    try clear hcz8_2
    try clear hfz12_0
    try clear hfz12_1
    try clear hfz12_2
    try clear hfz16_0
    try clear hfz16_1
    try clear hfz16_2
    try clear hfz22_0
    try clear hfz22_1
    try clear hfz22_2
    try clear hfz25_0
    try clear hfz25_1
    try clear hfz25_2
    try clear hfz8_0
    try clear hfz8_1
    try clear hfz8_2
    obtain ⟨kq, x32_5, rfl, HA, HJ5, HO_8, HO_791001, HO_791002, BK782, BK790, HB⟩ := hcut
    cases kq with
    | zero => exact absurd HA.out (by simp [remouldlaw06_WheelSends.j0])
    | succ kj5 =>
      have H := HA.out
      clear HA
      simp only [remouldlaw06_WheelSends.j0] at H
      by_cases c27 : x32_5 = true
      · subst c27
        have H1 : (if t791 = 0 then (if t792 = 2 then (if (t793.length : Int) = 0 then (if t796 = 2 then ((remouldlaw06_awake.f kj5).bind fun t799 => (some t799)) else (some false)) else (some false)) else (some false)) else (some false)) = some r := by rw [if_pos rfl] at H; exact H
        clear H
        have H := H1
        clear H1
        by_cases c28 : t791 = 0
        · rw [if_pos c28] at H
          have c28b0 : (t791 == 0) = true := beq_iff_eq.mpr c28
          have c28b1 : (t791 != 0) = false := bne_eq_false_iff_eq.mpr c28
          clear c28
          by_cases c29 : t792 = 2
          · rw [if_pos c29] at H
            have c29b0 : (t792 == 2) = true := beq_iff_eq.mpr c29
            have c29b1 : (t792 != 2) = false := bne_eq_false_iff_eq.mpr c29
            clear c29
            by_cases c30 : (t793.length : Int) = 0
            · rw [if_pos c30] at H
              have c30b0 : ((t793.length : Int) == 0) = true := beq_iff_eq.mpr c30
              have c30b1 : ((t793.length : Int) != 0) = false := bne_eq_false_iff_eq.mpr c30
              clear c30
              by_cases c31 : t796 = 2
              · rw [if_pos c31] at H
                have c31b0 : (t796 == 2) = true := beq_iff_eq.mpr c31
                have c31b1 : (t796 != 2) = false := bne_eq_false_iff_eq.mpr c31
                clear c31
                replace H := Option.bind_eq_some_iff.mp H
                obtain ⟨t799, A320, H⟩ := H
                replace H : (some t799) = some r := H
                have A32 := Aside0.mk A320
                clear A320
                obtain rfl := Option.some.inj H
                obtain ⟨Ao33, co33, eo33⟩ := Kd.R_slice HO_8.out
                subst eo33
                go_wp2_with (first | (go_at_call 27; (with_reducible refine (remouldlaw06_awake.calls kj5  t799 _ A32.out).mono ?_); rintro e w34 ⟨rfl, hb⟩; have n0_ := Aside0.mk (Kd.R_below (by (with_reducible repeat (first | apply Kd.R_alloc | apply Kd.R_drewN | apply Kd.R_drew)); exact HO_8.out) hb); have n1_ := Aside0.mk (Kd.R_below (by (with_reducible repeat (first | apply Kd.R_alloc | apply Kd.R_drewN | apply Kd.R_drew)); exact HO_791001.out) hb); have n2_ := Aside0.mk (Kd.R_below (by (with_reducible repeat (first | apply Kd.R_alloc | apply Kd.R_drewN | apply Kd.R_drew)); exact HO_791002.out) hb); have n3_ := Aside0.mk (blk_below (g := gb782) (o := .cells #[.int .i64 a0_0, .slice A0_1 l0_1.length c0_1, .slice A0_2 l0_2.length c0_2] 24 (0, 0)) (by (with_reducible repeat (first | refine blk_drewN ?_ _ | refine blk_drew ?_ | refine blk_alloc ?_ _)); exact BK782.out) hb); have n4_ := Aside0.mk (blk_below (g := gb790) (o := .cells #[.int .i64 t783, .slice Ao13 t784.length co13, .slice Ao14 t787.length co14] 24 (0, 0)) (by (with_reducible repeat (first | refine blk_drewN ?_ _ | refine blk_drew ?_ | refine blk_alloc ?_ _)); exact BK790.out) hb); have n5_ := Aside0.mk (below_step (by repeat (first | (with_reducible first | exact HB.out | apply below_alloc | apply pw_below_drewN | apply below_drew1 | refine below_set ?_ GE782.out | refine below_set ?_ GE790.out) | exact HB.out)) hb); clear HO_8; clear HO_791001; clear HO_791002; clear BK782; clear BK790; clear HB; have HO_8 := n0_; have HO_791001 := n1_; have HO_791002 := n2_; have BK782 := n3_; have BK790 := n4_; have HB := n5_; clear n0_ n1_ n2_ n3_ n4_ n5_; (try clear hb); (try clear hb2); (try clear hk); (try clear hi)))
                go_ret
                exact ⟨by first | rfl | (simp [errW_none, errW_some] <;> rfl) | (simp [*, errW_none, errW_some] <;> rfl), by repeat (first | (with_reducible first | exact HB.out | apply below_alloc | apply pw_below_drewN | apply below_drew1 | refine below_set ?_ GE782.out | refine below_set ?_ GE790.out) | exact HB.out)⟩
              · rw [if_neg c31] at H
                have c31b0 : (t796 == 2) = false := beq_eq_false_iff_ne.mpr c31
                have c31b1 : (t796 != 2) = true := bne_iff_ne.mpr c31
                obtain rfl := Option.some.inj H
                obtain ⟨Ao35, co35, eo35⟩ := Kd.R_slice HO_8.out
                subst eo35
                go_wp2
                go_ret
                exact ⟨by first | rfl | (simp [errW_none, errW_some] <;> rfl) | (simp [*, errW_none, errW_some] <;> rfl), by repeat (first | (with_reducible first | exact HB.out | apply below_alloc | apply pw_below_drewN | apply below_drew1 | refine below_set ?_ GE782.out | refine below_set ?_ GE790.out) | exact HB.out)⟩
            · rw [if_neg c30] at H
              have c30b0 : ((t793.length : Int) == 0) = false := beq_eq_false_iff_ne.mpr c30
              have c30b1 : ((t793.length : Int) != 0) = true := bne_iff_ne.mpr c30
              have c30b2 : ¬ (t793 = []) := fun h_ => c30 (by rw [h_]; rfl)
              obtain rfl := Option.some.inj H
              obtain ⟨Ao36, co36, eo36⟩ := Kd.R_slice HO_8.out
              subst eo36
              go_wp2
              go_ret
              exact ⟨by first | rfl | (simp [errW_none, errW_some] <;> rfl) | (simp [*, errW_none, errW_some] <;> rfl), by repeat (first | (with_reducible first | exact HB.out | apply below_alloc | apply pw_below_drewN | apply below_drew1 | refine below_set ?_ GE782.out | refine below_set ?_ GE790.out) | exact HB.out)⟩
          · rw [if_neg c29] at H
            have c29b0 : (t792 == 2) = false := beq_eq_false_iff_ne.mpr c29
            have c29b1 : (t792 != 2) = true := bne_iff_ne.mpr c29
            obtain rfl := Option.some.inj H
            go_wp2
            go_ret
            exact ⟨by first | rfl | (simp [errW_none, errW_some] <;> rfl) | (simp [*, errW_none, errW_some] <;> rfl), by repeat (first | (with_reducible first | exact HB.out | apply below_alloc | apply pw_below_drewN | apply below_drew1 | refine below_set ?_ GE782.out | refine below_set ?_ GE790.out) | exact HB.out)⟩
        · rw [if_neg c28] at H
          have c28b0 : (t791 == 0) = false := beq_eq_false_iff_ne.mpr c28
          have c28b1 : (t791 != 0) = true := bne_iff_ne.mpr c28
          obtain rfl := Option.some.inj H
          go_wp2
          go_ret
          exact ⟨by first | rfl | (simp [errW_none, errW_some] <;> rfl) | (simp [*, errW_none, errW_some] <;> rfl), by repeat (first | (with_reducible first | exact HB.out | apply below_alloc | apply pw_below_drewN | apply below_drew1 | refine below_set ?_ GE782.out | refine below_set ?_ GE790.out) | exact HB.out)⟩
      · replace c27 := Bool.eq_false_iff.mpr c27
        subst c27
        have H1 : ((remouldref06_Send.f t783 t784 t787 a1).bind fun t800 => ((remouldref06_Large.f t800).bind fun t801 => (if t801 = true then (if t791 = 0 then (if t792 = 5 then (remouldlaw06_WheelSends.j1 kj5 a1 t793 t796 t783 t784 t787) else (some false)) else (some false)) else ((remouldref06_Send.f t783 t784 t787 a1).bind fun t802 => (if t791 = t802 then (if t792 = 0 then (remouldlaw06_WheelSends.j1 kj5 a1 t793 t796 t783 t784 t787) else (some false)) else (some false)))))) = some r := by rw [if_neg (show ¬ (false = true) by decide)] at H; exact H
        clear H
        have H := H1
        clear H1
        replace H := Option.bind_eq_some_iff.mp H
        obtain ⟨t800, A370, H⟩ := H
        replace H : ((remouldref06_Large.f t800).bind fun t801 => (if t801 = true then (if t791 = 0 then (if t792 = 5 then (remouldlaw06_WheelSends.j1 kj5 a1 t793 t796 t783 t784 t787) else (some false)) else (some false)) else ((remouldref06_Send.f t783 t784 t787 a1).bind fun t802 => (if t791 = t802 then (if t792 = 0 then (remouldlaw06_WheelSends.j1 kj5 a1 t793 t796 t783 t784 t787) else (some false)) else (some false))))) = some r := H
        have A37 := Aside0.mk A370
        clear A370
        replace H := Option.bind_eq_some_iff.mp H
        obtain ⟨t801, A380, H⟩ := H
        replace H : (if t801 = true then (if t791 = 0 then (if t792 = 5 then (remouldlaw06_WheelSends.j1 kj5 a1 t793 t796 t783 t784 t787) else (some false)) else (some false)) else ((remouldref06_Send.f t783 t784 t787 a1).bind fun t802 => (if t791 = t802 then (if t792 = 0 then (remouldlaw06_WheelSends.j1 kj5 a1 t793 t796 t783 t784 t787) else (some false)) else (some false)))) = some r := H
        have A38 := Aside0.mk A380
        clear A380
        have HC39 := Aside0.mk H
        clear H
        have hnb40 := NB790_782.out
        have hnc40 := NB782_790.out
        have hcz41_0 : wc.cell? ⟨gb790, 0, none⟩ = some (.int .i64 t783) := (blk_cell BK790.out 0).trans rfl
        have hcz41_1 : wc.cell? ⟨gb790, 1, none⟩ = some (.slice Ao13 t784.length co13) := (blk_cell BK790.out 1).trans rfl
        have hcz41_2 : wc.cell? ⟨gb790, 2, none⟩ = some (.slice Ao14 t787.length co14) := (blk_cell BK790.out 2).trans rfl
        have hfz41_0 := blk_frozen BK790.out 0
        have hfz41_1 := blk_frozen BK790.out 1
        have hfz41_2 := blk_frozen BK790.out 2
        go_upto_if 54 with (first | ((with_reducible refine gate_callee (f := 55) rfl ?_); refine goesL_ (some 53) rfl rfl Try.func55 (by kernel_rfl) rfl #[.agg #[.int .i64 t783, .slice Ao13 t784.length co13, .slice Ao14 t787.length co14], .int .i64 a1] rfl (by (try simp only [List.map_toArray, List.map_cons, List.map_nil]); first | done | rfl | (simp only [List.length_drop, List.length_take]; rfl)) ?_; (with_reducible refine (remouldref06_Send.calls t783 _ _ t784 _ _ t787 a1 t800 _ ?side1 ?side2 ?side3 ?side4 A37.out).mono ?_); (case side1 => repeat (first | exact (Kd.R_reads' HO_791001.out).2.2 | (with_reducible refine Kd.C_alloc ?_ _) | (with_reducible refine Kd.C_drewN ?_ _) | (with_reducible refine Kd.C_drew ?_))); (case side2 => exact (Kd.R_reads' HO_791001.out).2.1); (case side3 => repeat (first | exact (Kd.R_reads' HO_791002.out).2.2 | (with_reducible refine Kd.C_alloc ?_ _) | (with_reducible refine Kd.C_drewN ?_ _) | (with_reducible refine Kd.C_drew ?_))); (case side4 => exact (Kd.R_reads' HO_791002.out).2.1); rintro e w42 ⟨rfl, hb⟩; refine ⟨_, rfl, ?_⟩; have n0_ := Aside0.mk (Kd.R_below (by (with_reducible repeat (first | apply Kd.R_alloc | apply Kd.R_drewN | apply Kd.R_drew)); exact HO_8.out) hb); have n1_ := Aside0.mk (Kd.R_below (by (with_reducible repeat (first | apply Kd.R_alloc | apply Kd.R_drewN | apply Kd.R_drew)); exact HO_791001.out) hb); have n2_ := Aside0.mk (Kd.R_below (by (with_reducible repeat (first | apply Kd.R_alloc | apply Kd.R_drewN | apply Kd.R_drew)); exact HO_791002.out) hb); have n3_ := Aside0.mk (blk_below (g := gb782) (o := .cells #[.int .i64 a0_0, .slice A0_1 l0_1.length c0_1, .slice A0_2 l0_2.length c0_2] 24 (0, 0)) (by (with_reducible repeat (first | refine blk_drewN ?_ _ | refine blk_drew ?_ | refine blk_alloc ?_ _)); exact BK782.out) hb); have n4_ := Aside0.mk (blk_below (g := gb790) (o := .cells #[.int .i64 t783, .slice Ao13 t784.length co13, .slice Ao14 t787.length co14] 24 (0, 0)) (by (with_reducible repeat (first | refine blk_drewN ?_ _ | refine blk_drew ?_ | refine blk_alloc ?_ _)); exact BK790.out) hb); have n5_ := Aside0.mk (below_step (by repeat (first | (with_reducible first | exact HB.out | apply below_alloc | apply pw_below_drewN | apply below_drew1 | refine below_set ?_ GE782.out | refine below_set ?_ GE790.out) | exact HB.out)) hb); clear HO_8; clear HO_791001; clear HO_791002; clear BK782; clear BK790; clear HB; have HO_8 := n0_; have HO_791001 := n1_; have HO_791002 := n2_; have BK782 := n3_; have BK790 := n4_; have HB := n5_; clear n0_ n1_ n2_ n3_ n4_ n5_; (try clear hb); (try clear hb2); (try clear hk); (try clear hi)) | ((with_reducible refine gate_callee (f := 26) rfl ?_); refine goesL_ (some 54) rfl rfl Try.func26 (by kernel_rfl) rfl #[.int .i64 t800] rfl (by (try simp only [List.map_toArray, List.map_cons, List.map_nil]); first | done | rfl | (simp only [List.length_drop, List.length_take]; rfl)) ?_; (with_reducible refine (remouldref06_Large.calls t800 t801 _ A38.out).mono ?_); rintro e w' ⟨rfl, ⟨nd, rfl⟩⟩; refine ⟨_, rfl, ?_⟩))
        (try simp only [Act.put, List.setIfInBounds_toArray, List.set_cons_zero, List.set_cons_succ])
        go_cut [] (fun wc => ∃ (kq : Nat), Aside0 (remouldlaw06_WheelSends.j1 kq a1 t793 t796 t783 t784 t787 = some r) ∧ Aside0 (kq ≤ kj5) ∧ Aside0 (Kd.R (Kd.int .i64) 3 wc w.heap.size (fun k_ => some k_ ≠ ((.slice Ao13 t784.length co13) : Value).ownBlock ∧ some k_ ≠ ((.slice Ao14 t787.length co14) : Value).ownBlock) v794 t793) ∧ Aside0 (Kd.R (Kd.int .i64) 3 wc w.heap.size (fun k_ => some k_ ≠ (v794 : Value).ownBlock ∧ some k_ ≠ ((.slice Ao14 t787.length co14) : Value).ownBlock) (.slice Ao13 t784.length co13) t784) ∧ Aside0 (Kd.R (Kd.int .i64) 3 wc w.heap.size (fun k_ => some k_ ≠ (v794 : Value).ownBlock ∧ some k_ ≠ ((.slice Ao13 t784.length co13) : Value).ownBlock) (.slice Ao14 t787.length co14) t787) ∧ Aside0 (wc.heap[gb782]? = some (.cells #[.int .i64 a0_0, (.slice A0_1 l0_1.length c0_1), (.slice A0_2 l0_2.length c0_2)] 24 (0, 0))) ∧ Aside0 (wc.heap[gb790]? = some (.cells #[.int .i64 t783, (.slice Ao13 t784.length co13), (.slice Ao14 t787.length co14)] 24 (0, 0))) ∧ Aside0 (Below w.heap.size w wc))
        case first =>
          have H := HC39.out
          clear HC39
          by_cases c43 : t801 = true
          · subst c43
            have H1 : (if t791 = 0 then (if t792 = 5 then (remouldlaw06_WheelSends.j1 kj5 a1 t793 t796 t783 t784 t787) else (some false)) else (some false)) = some r := by rw [if_pos rfl] at H; exact H
            clear H
            have H := H1
            clear H1
            by_cases c44 : t791 = 0
            · rw [if_pos c44] at H
              have c44b0 : (t791 == 0) = true := beq_iff_eq.mpr c44
              have c44b1 : (t791 != 0) = false := bne_eq_false_iff_eq.mpr c44
              clear c44
              (first | rw [c44b0] | (simp only [i64_w, i32_w]; rw [c44b0]) | skip)
              by_cases c45 : t792 = 5
              · rw [if_pos c45] at H
                have c45b0 : (t792 == 5) = true := beq_iff_eq.mpr c45
                have c45b1 : (t792 != 5) = false := bne_eq_false_iff_eq.mpr c45
                clear c45
                have H' := Aside0.mk H
                clear H
                go_wp2
                go_meet
                case rel => exact ⟨_, H', ⟨by have := HJ5.out; first | omega | exact Nat.le_refl _⟩, ⟨by (with_reducible repeat (first | apply Kd.R_alloc | apply Kd.R_drewN | apply Kd.R_drew)); exact HO_8.out⟩, ⟨by (with_reducible repeat (first | apply Kd.R_alloc | apply Kd.R_drewN | apply Kd.R_drew)); exact HO_791001.out⟩, ⟨by (with_reducible repeat (first | apply Kd.R_alloc | apply Kd.R_drewN | apply Kd.R_drew)); exact HO_791002.out⟩, ⟨by (with_reducible repeat (first | refine blk_drewN ?_ _ | refine blk_drew ?_ | refine blk_alloc ?_ _)); exact BK782.out⟩, ⟨by (with_reducible repeat (first | refine blk_drewN ?_ _ | refine blk_drew ?_ | refine blk_alloc ?_ _)); exact BK790.out⟩, ⟨by repeat (first | (with_reducible first | exact HB.out | apply below_alloc | apply pw_below_drewN | apply below_drew1 | refine below_set ?_ GE782.out | refine below_set ?_ GE790.out) | exact HB.out)⟩⟩
              · rw [if_neg c45] at H
                have c45b0 : (t792 == 5) = false := beq_eq_false_iff_ne.mpr c45
                have c45b1 : (t792 != 5) = true := bne_iff_ne.mpr c45
                obtain rfl := Option.some.inj H
                go_wp2
                go_ret
                exact ⟨by first | rfl | (simp [errW_none, errW_some] <;> rfl) | (simp [*, errW_none, errW_some] <;> rfl), by repeat (first | (with_reducible first | exact HB.out | apply below_alloc | apply pw_below_drewN | apply below_drew1 | refine below_set ?_ GE782.out | refine below_set ?_ GE790.out) | exact HB.out)⟩
            · rw [if_neg c44] at H
              have c44b0 : (t791 == 0) = false := beq_eq_false_iff_ne.mpr c44
              have c44b1 : (t791 != 0) = true := bne_iff_ne.mpr c44
              (first | rw [c44b0] | (simp only [i64_w, i32_w]; rw [c44b0]) | skip)
              obtain rfl := Option.some.inj H
              go_wp2
              go_ret
              exact ⟨by first | rfl | (simp [errW_none, errW_some] <;> rfl) | (simp [*, errW_none, errW_some] <;> rfl), by repeat (first | (with_reducible first | exact HB.out | apply below_alloc | apply pw_below_drewN | apply below_drew1 | refine below_set ?_ GE782.out | refine below_set ?_ GE790.out) | exact HB.out)⟩
          · replace c43 := Bool.eq_false_iff.mpr c43
            subst c43
            have H1 : ((remouldref06_Send.f t783 t784 t787 a1).bind fun t802 => (if t791 = t802 then (if t792 = 0 then (remouldlaw06_WheelSends.j1 kj5 a1 t793 t796 t783 t784 t787) else (some false)) else (some false))) = some r := by rw [if_neg (show ¬ (false = true) by decide)] at H; exact H
            clear H
            have H := H1
            clear H1
            replace H := Option.bind_eq_some_iff.mp H
            obtain ⟨t802, A460, H⟩ := H
            replace H : (if t791 = t802 then (if t792 = 0 then (remouldlaw06_WheelSends.j1 kj5 a1 t793 t796 t783 t784 t787) else (some false)) else (some false)) = some r := H
            have A46 := Aside0.mk A460
            clear A460
            by_cases c47 : t791 = t802
            · rw [if_pos c47] at H
              have c47b0 : (t791 == t802) = true := beq_iff_eq.mpr c47
              have c47b1 : (t791 != t802) = false := bne_eq_false_iff_eq.mpr c47
              clear c47
              by_cases c48 : t792 = 0
              · rw [if_pos c48] at H
                have c48b0 : (t792 == 0) = true := beq_iff_eq.mpr c48
                have c48b1 : (t792 != 0) = false := bne_eq_false_iff_eq.mpr c48
                clear c48
                have H' := Aside0.mk H
                clear H
                have hnb49 := NB790_782.out
                have hnc49 := NB782_790.out
                have hcz50_0 : w42.cell? ⟨gb790, 0, none⟩ = some (.int .i64 t783) := (blk_cell BK790.out 0).trans rfl
                have hcz50_1 : w42.cell? ⟨gb790, 1, none⟩ = some (.slice Ao13 t784.length co13) := (blk_cell BK790.out 1).trans rfl
                have hcz50_2 : w42.cell? ⟨gb790, 2, none⟩ = some (.slice Ao14 t787.length co14) := (blk_cell BK790.out 2).trans rfl
                have hfz50_0 := blk_frozen BK790.out 0
                have hfz50_1 := blk_frozen BK790.out 1
                have hfz50_2 := blk_frozen BK790.out 2
                go_wp2_with (first | ((with_reducible refine gate_callee (f := 55) rfl ?_); refine goesL_ (some 64) rfl rfl Try.func55 (by kernel_rfl) rfl #[.agg #[.int .i64 t783, .slice Ao13 t784.length co13, .slice Ao14 t787.length co14], .int .i64 a1] rfl (by (try simp only [List.map_toArray, List.map_cons, List.map_nil]); first | done | rfl | (simp only [List.length_drop, List.length_take]; rfl)) ?_; (with_reducible refine (remouldref06_Send.calls t783 _ _ t784 _ _ t787 a1 t802 _ ?side1 ?side2 ?side3 ?side4 A46.out).mono ?_); (case side1 => repeat (first | exact (Kd.R_reads' HO_791001.out).2.2 | (with_reducible refine Kd.C_alloc ?_ _) | (with_reducible refine Kd.C_drewN ?_ _) | (with_reducible refine Kd.C_drew ?_))); (case side2 => exact (Kd.R_reads' HO_791001.out).2.1); (case side3 => repeat (first | exact (Kd.R_reads' HO_791002.out).2.2 | (with_reducible refine Kd.C_alloc ?_ _) | (with_reducible refine Kd.C_drewN ?_ _) | (with_reducible refine Kd.C_drew ?_))); (case side4 => exact (Kd.R_reads' HO_791002.out).2.1); rintro e w51 ⟨rfl, hb⟩; refine ⟨_, rfl, ?_⟩; have n0_ := Aside0.mk (Kd.R_below (by (with_reducible repeat (first | apply Kd.R_alloc | apply Kd.R_drewN | apply Kd.R_drew)); exact HO_8.out) hb); have n1_ := Aside0.mk (Kd.R_below (by (with_reducible repeat (first | apply Kd.R_alloc | apply Kd.R_drewN | apply Kd.R_drew)); exact HO_791001.out) hb); have n2_ := Aside0.mk (Kd.R_below (by (with_reducible repeat (first | apply Kd.R_alloc | apply Kd.R_drewN | apply Kd.R_drew)); exact HO_791002.out) hb); have n3_ := Aside0.mk (blk_below (g := gb782) (o := .cells #[.int .i64 a0_0, .slice A0_1 l0_1.length c0_1, .slice A0_2 l0_2.length c0_2] 24 (0, 0)) (by (with_reducible repeat (first | refine blk_drewN ?_ _ | refine blk_drew ?_ | refine blk_alloc ?_ _)); exact BK782.out) hb); have n4_ := Aside0.mk (blk_below (g := gb790) (o := .cells #[.int .i64 t783, .slice Ao13 t784.length co13, .slice Ao14 t787.length co14] 24 (0, 0)) (by (with_reducible repeat (first | refine blk_drewN ?_ _ | refine blk_drew ?_ | refine blk_alloc ?_ _)); exact BK790.out) hb); have n5_ := Aside0.mk (below_step (by repeat (first | (with_reducible first | exact HB.out | apply below_alloc | apply pw_below_drewN | apply below_drew1 | refine below_set ?_ GE782.out | refine below_set ?_ GE790.out) | exact HB.out)) hb); clear HO_8; clear HO_791001; clear HO_791002; clear BK782; clear BK790; clear HB; have HO_8 := n0_; have HO_791001 := n1_; have HO_791002 := n2_; have BK782 := n3_; have BK790 := n4_; have HB := n5_; clear n0_ n1_ n2_ n3_ n4_ n5_; (try clear hb); (try clear hb2); (try clear hk); (try clear hi)))
                go_meet
                case rel => exact ⟨_, H', ⟨by have := HJ5.out; first | omega | exact Nat.le_refl _⟩, ⟨by (with_reducible repeat (first | apply Kd.R_alloc | apply Kd.R_drewN | apply Kd.R_drew)); exact HO_8.out⟩, ⟨by (with_reducible repeat (first | apply Kd.R_alloc | apply Kd.R_drewN | apply Kd.R_drew)); exact HO_791001.out⟩, ⟨by (with_reducible repeat (first | apply Kd.R_alloc | apply Kd.R_drewN | apply Kd.R_drew)); exact HO_791002.out⟩, ⟨by (with_reducible repeat (first | refine blk_drewN ?_ _ | refine blk_drew ?_ | refine blk_alloc ?_ _)); exact BK782.out⟩, ⟨by (with_reducible repeat (first | refine blk_drewN ?_ _ | refine blk_drew ?_ | refine blk_alloc ?_ _)); exact BK790.out⟩, ⟨by repeat (first | (with_reducible first | exact HB.out | apply below_alloc | apply pw_below_drewN | apply below_drew1 | refine below_set ?_ GE782.out | refine below_set ?_ GE790.out) | exact HB.out)⟩⟩
              · rw [if_neg c48] at H
                have c48b0 : (t792 == 0) = false := beq_eq_false_iff_ne.mpr c48
                have c48b1 : (t792 != 0) = true := bne_iff_ne.mpr c48
                obtain rfl := Option.some.inj H
                have hnb52 := NB790_782.out
                have hnc52 := NB782_790.out
                have hcz53_0 : w42.cell? ⟨gb790, 0, none⟩ = some (.int .i64 t783) := (blk_cell BK790.out 0).trans rfl
                have hcz53_1 : w42.cell? ⟨gb790, 1, none⟩ = some (.slice Ao13 t784.length co13) := (blk_cell BK790.out 1).trans rfl
                have hcz53_2 : w42.cell? ⟨gb790, 2, none⟩ = some (.slice Ao14 t787.length co14) := (blk_cell BK790.out 2).trans rfl
                have hfz53_0 := blk_frozen BK790.out 0
                have hfz53_1 := blk_frozen BK790.out 1
                have hfz53_2 := blk_frozen BK790.out 2
                go_wp2_with (first | ((with_reducible refine gate_callee (f := 55) rfl ?_); refine goesL_ (some 64) rfl rfl Try.func55 (by kernel_rfl) rfl #[.agg #[.int .i64 t783, .slice Ao13 t784.length co13, .slice Ao14 t787.length co14], .int .i64 a1] rfl (by (try simp only [List.map_toArray, List.map_cons, List.map_nil]); first | done | rfl | (simp only [List.length_drop, List.length_take]; rfl)) ?_; (with_reducible refine (remouldref06_Send.calls t783 _ _ t784 _ _ t787 a1 t802 _ ?side1 ?side2 ?side3 ?side4 A46.out).mono ?_); (case side1 => repeat (first | exact (Kd.R_reads' HO_791001.out).2.2 | (with_reducible refine Kd.C_alloc ?_ _) | (with_reducible refine Kd.C_drewN ?_ _) | (with_reducible refine Kd.C_drew ?_))); (case side2 => exact (Kd.R_reads' HO_791001.out).2.1); (case side3 => repeat (first | exact (Kd.R_reads' HO_791002.out).2.2 | (with_reducible refine Kd.C_alloc ?_ _) | (with_reducible refine Kd.C_drewN ?_ _) | (with_reducible refine Kd.C_drew ?_))); (case side4 => exact (Kd.R_reads' HO_791002.out).2.1); rintro e w54 ⟨rfl, hb⟩; refine ⟨_, rfl, ?_⟩; have n0_ := Aside0.mk (Kd.R_below (by (with_reducible repeat (first | apply Kd.R_alloc | apply Kd.R_drewN | apply Kd.R_drew)); exact HO_8.out) hb); have n1_ := Aside0.mk (Kd.R_below (by (with_reducible repeat (first | apply Kd.R_alloc | apply Kd.R_drewN | apply Kd.R_drew)); exact HO_791001.out) hb); have n2_ := Aside0.mk (Kd.R_below (by (with_reducible repeat (first | apply Kd.R_alloc | apply Kd.R_drewN | apply Kd.R_drew)); exact HO_791002.out) hb); have n3_ := Aside0.mk (blk_below (g := gb782) (o := .cells #[.int .i64 a0_0, .slice A0_1 l0_1.length c0_1, .slice A0_2 l0_2.length c0_2] 24 (0, 0)) (by (with_reducible repeat (first | refine blk_drewN ?_ _ | refine blk_drew ?_ | refine blk_alloc ?_ _)); exact BK782.out) hb); have n4_ := Aside0.mk (blk_below (g := gb790) (o := .cells #[.int .i64 t783, .slice Ao13 t784.length co13, .slice Ao14 t787.length co14] 24 (0, 0)) (by (with_reducible repeat (first | refine blk_drewN ?_ _ | refine blk_drew ?_ | refine blk_alloc ?_ _)); exact BK790.out) hb); have n5_ := Aside0.mk (below_step (by repeat (first | (with_reducible first | exact HB.out | apply below_alloc | apply pw_below_drewN | apply below_drew1 | refine below_set ?_ GE782.out | refine below_set ?_ GE790.out) | exact HB.out)) hb); clear HO_8; clear HO_791001; clear HO_791002; clear BK782; clear BK790; clear HB; have HO_8 := n0_; have HO_791001 := n1_; have HO_791002 := n2_; have BK782 := n3_; have BK790 := n4_; have HB := n5_; clear n0_ n1_ n2_ n3_ n4_ n5_; (try clear hb); (try clear hb2); (try clear hk); (try clear hi)))
                go_ret
                exact ⟨by first | rfl | (simp [errW_none, errW_some] <;> rfl) | (simp [*, errW_none, errW_some] <;> rfl), by repeat (first | (with_reducible first | exact HB.out | apply below_alloc | apply pw_below_drewN | apply below_drew1 | refine below_set ?_ GE782.out | refine below_set ?_ GE790.out) | exact HB.out)⟩
            · rw [if_neg c47] at H
              have c47b0 : (t791 == t802) = false := beq_eq_false_iff_ne.mpr c47
              have c47b1 : (t791 != t802) = true := bne_iff_ne.mpr c47
              obtain rfl := Option.some.inj H
              have hnb55 := NB790_782.out
              have hnc55 := NB782_790.out
              have hcz56_0 : w42.cell? ⟨gb790, 0, none⟩ = some (.int .i64 t783) := (blk_cell BK790.out 0).trans rfl
              have hcz56_1 : w42.cell? ⟨gb790, 1, none⟩ = some (.slice Ao13 t784.length co13) := (blk_cell BK790.out 1).trans rfl
              have hcz56_2 : w42.cell? ⟨gb790, 2, none⟩ = some (.slice Ao14 t787.length co14) := (blk_cell BK790.out 2).trans rfl
              have hfz56_0 := blk_frozen BK790.out 0
              have hfz56_1 := blk_frozen BK790.out 1
              have hfz56_2 := blk_frozen BK790.out 2
              go_wp2_with (first | ((with_reducible refine gate_callee (f := 55) rfl ?_); refine goesL_ (some 64) rfl rfl Try.func55 (by kernel_rfl) rfl #[.agg #[.int .i64 t783, .slice Ao13 t784.length co13, .slice Ao14 t787.length co14], .int .i64 a1] rfl (by (try simp only [List.map_toArray, List.map_cons, List.map_nil]); first | done | rfl | (simp only [List.length_drop, List.length_take]; rfl)) ?_; (with_reducible refine (remouldref06_Send.calls t783 _ _ t784 _ _ t787 a1 t802 _ ?side1 ?side2 ?side3 ?side4 A46.out).mono ?_); (case side1 => repeat (first | exact (Kd.R_reads' HO_791001.out).2.2 | (with_reducible refine Kd.C_alloc ?_ _) | (with_reducible refine Kd.C_drewN ?_ _) | (with_reducible refine Kd.C_drew ?_))); (case side2 => exact (Kd.R_reads' HO_791001.out).2.1); (case side3 => repeat (first | exact (Kd.R_reads' HO_791002.out).2.2 | (with_reducible refine Kd.C_alloc ?_ _) | (with_reducible refine Kd.C_drewN ?_ _) | (with_reducible refine Kd.C_drew ?_))); (case side4 => exact (Kd.R_reads' HO_791002.out).2.1); rintro e w57 ⟨rfl, hb⟩; refine ⟨_, rfl, ?_⟩; have n0_ := Aside0.mk (Kd.R_below (by (with_reducible repeat (first | apply Kd.R_alloc | apply Kd.R_drewN | apply Kd.R_drew)); exact HO_8.out) hb); have n1_ := Aside0.mk (Kd.R_below (by (with_reducible repeat (first | apply Kd.R_alloc | apply Kd.R_drewN | apply Kd.R_drew)); exact HO_791001.out) hb); have n2_ := Aside0.mk (Kd.R_below (by (with_reducible repeat (first | apply Kd.R_alloc | apply Kd.R_drewN | apply Kd.R_drew)); exact HO_791002.out) hb); have n3_ := Aside0.mk (blk_below (g := gb782) (o := .cells #[.int .i64 a0_0, .slice A0_1 l0_1.length c0_1, .slice A0_2 l0_2.length c0_2] 24 (0, 0)) (by (with_reducible repeat (first | refine blk_drewN ?_ _ | refine blk_drew ?_ | refine blk_alloc ?_ _)); exact BK782.out) hb); have n4_ := Aside0.mk (blk_below (g := gb790) (o := .cells #[.int .i64 t783, .slice Ao13 t784.length co13, .slice Ao14 t787.length co14] 24 (0, 0)) (by (with_reducible repeat (first | refine blk_drewN ?_ _ | refine blk_drew ?_ | refine blk_alloc ?_ _)); exact BK790.out) hb); have n5_ := Aside0.mk (below_step (by repeat (first | (with_reducible first | exact HB.out | apply below_alloc | apply pw_below_drewN | apply below_drew1 | refine below_set ?_ GE782.out | refine below_set ?_ GE790.out) | exact HB.out)) hb); clear HO_8; clear HO_791001; clear HO_791002; clear BK782; clear BK790; clear HB; have HO_8 := n0_; have HO_791001 := n1_; have HO_791002 := n2_; have BK782 := n3_; have BK790 := n4_; have HB := n5_; clear n0_ n1_ n2_ n3_ n4_ n5_; (try clear hb); (try clear hb2); (try clear hk); (try clear hi)))
              go_ret
              exact ⟨by first | rfl | (simp [errW_none, errW_some] <;> rfl) | (simp [*, errW_none, errW_some] <;> rfl), by repeat (first | (with_reducible first | exact HB.out | apply below_alloc | apply pw_below_drewN | apply below_drew1 | refine below_set ?_ GE782.out | refine below_set ?_ GE790.out) | exact HB.out)⟩
        case rest =>
          clear HC39
          try clear c1
          try clear c2
          try clear p2
          try clear c3
          try clear c4
          try clear c5
          try clear c11
          try clear c17
          try clear c19
          try clear c21
          try clear c23
          try clear c24
          try clear c25
          try clear c26
          try clear c27
          try clear c28
          try clear c28b0
          try clear c28b1
          try clear c29
          try clear c29b0
          try clear c29b1
          try clear c30
          try clear c30b0
          try clear c30b1
          try clear c30b2
          try clear c31
          try clear c31b0
          try clear c31b1
          try clear c40
          try clear c43
          try clear c44
          try clear c44b0
          try clear c44b1
          try clear c45
          try clear c45b0
          try clear c45b1
          try clear c47
          try clear c47b0
          try clear c47b1
          try clear c48
          try clear c48b0
          try clear c48b1
          try clear c49
          try clear c52
          try clear c53
          try clear c55
          try clear hcz12_0
          try clear hcz12_1
          try clear hcz12_2
          try clear hcz16_0
          try clear hcz16_1
          try clear hcz16_2
          try clear hcz22_0
          try clear hcz22_1
          try clear hcz22_2
          try clear hcz25_0
          try clear hcz25_1
          try clear hcz25_2
          try clear hcz41_0
          try clear hcz41_1
          try clear hcz41_2
          try clear hcz50_0
          try clear hcz50_1
          try clear hcz50_2
          try clear hcz53_0
          try clear hcz53_1
          try clear hcz53_2
          try clear hcz56_0
          try clear hcz56_1
          try clear hcz56_2
          try clear hcz8_0
          try clear hcz8_1
          try clear hcz8_2
          try clear hfz12_0
          try clear hfz12_1
          try clear hfz12_2
          try clear hfz16_0
          try clear hfz16_1
          try clear hfz16_2
          try clear hfz22_0
          try clear hfz22_1
          try clear hfz22_2
          try clear hfz25_0
          try clear hfz25_1
          try clear hfz25_2
          try clear hfz41_0
          try clear hfz41_1
          try clear hfz41_2
          try clear hfz50_0
          try clear hfz50_1
          try clear hfz50_2
          try clear hfz53_0
          try clear hfz53_1
          try clear hfz53_2
          try clear hfz56_0
          try clear hfz56_1
          try clear hfz56_2
          try clear hfz8_0
          try clear hfz8_1
          try clear hfz8_2
          try clear p2
          obtain ⟨kq, HA, HJ38, HO_8, HO_791001, HO_791002, BK782, BK790, HB⟩ := hcut
          cases kq with
          | zero => exact absurd HA.out (by simp [remouldlaw06_WheelSends.j1])
          | succ kj38 =>
            have H := HA.out
            clear HA
            simp only [remouldlaw06_WheelSends.j1] at H
            replace H := Option.bind_eq_some_iff.mp H
            obtain ⟨⟨t803, t806⟩, A580, H⟩ := H
            replace H : (if t806 = true then ((remouldlaw06_ints.f kj38 t793 t803).bind fun t807 => (if t807 = true then (if t796 = 0 then ((remouldlaw06_awake.f kj38).bind fun t808 => (some t808)) else (some false)) else (some false))) else (if (t793.length : Int) = 0 then (if t796 = 5 then ((remouldlaw06_awake.f kj38).bind fun t809 => (some t809)) else (some false)) else (some false))) = some r := H
            have A58 := Aside0.mk A580
            clear A580
            by_cases c59 : t806 = true
            · subst c59
              have H1 : ((remouldlaw06_ints.f kj38 t793 t803).bind fun t807 => (if t807 = true then (if t796 = 0 then ((remouldlaw06_awake.f kj38).bind fun t808 => (some t808)) else (some false)) else (some false))) = some r := by rw [if_pos rfl] at H; exact H
              clear H
              have H := H1
              clear H1
              replace H := Option.bind_eq_some_iff.mp H
              obtain ⟨t807, A600, H⟩ := H
              replace H : (if t807 = true then (if t796 = 0 then ((remouldlaw06_awake.f kj38).bind fun t808 => (some t808)) else (some false)) else (some false)) = some r := H
              have A60 := Aside0.mk A600
              clear A600
              by_cases c61 : t807 = true
              · subst c61
                have H1 : (if t796 = 0 then ((remouldlaw06_awake.f kj38).bind fun t808 => (some t808)) else (some false)) = some r := by rw [if_pos rfl] at H; exact H
                clear H
                have H := H1
                clear H1
                by_cases c62 : t796 = 0
                · rw [if_pos c62] at H
                  have c62b0 : (t796 == 0) = true := beq_iff_eq.mpr c62
                  have c62b1 : (t796 != 0) = false := bne_eq_false_iff_eq.mpr c62
                  clear c62
                  replace H := Option.bind_eq_some_iff.mp H
                  obtain ⟨t808, A630, H⟩ := H
                  replace H : (some t808) = some r := H
                  have A63 := Aside0.mk A630
                  clear A630
                  obtain rfl := Option.some.inj H
                  have hnb64 := NB790_782.out
                  have hnc64 := NB782_790.out
                  have hcz65_0 : wc.cell? ⟨gb790, 0, none⟩ = some (.int .i64 t783) := (blk_cell BK790.out 0).trans rfl
                  have hcz65_1 : wc.cell? ⟨gb790, 1, none⟩ = some (.slice Ao13 t784.length co13) := (blk_cell BK790.out 1).trans rfl
                  have hcz65_2 : wc.cell? ⟨gb790, 2, none⟩ = some (.slice Ao14 t787.length co14) := (blk_cell BK790.out 2).trans rfl
                  have hfz65_0 := blk_frozen BK790.out 0
                  have hfz65_1 := blk_frozen BK790.out 1
                  have hfz65_2 := blk_frozen BK790.out 2
                  go_wp2_with (first | ((with_reducible refine gate_callee (f := 54) rfl ?_); refine goesL_ (some 73) rfl rfl Try.func54 (by kernel_rfl) rfl #[.agg #[.int .i64 t783, .slice Ao13 t784.length co13, .slice Ao14 t787.length co14], .int .i64 a1] rfl (by (try simp only [List.map_toArray, List.map_cons, List.map_nil]); first | done | rfl | (simp only [List.length_drop, List.length_take]; rfl)) ?_; (with_reducible refine (remouldref06_Back.calls kj38 t783 _ _ t784 _ _ t787 a1 t803 true _ ?side1 ?side2 ?side3 ?side4 A58.out).mono ?_); (case side1 => repeat (first | exact (Kd.R_reads' HO_791001.out).2.2 | (with_reducible refine Kd.C_alloc ?_ _) | (with_reducible refine Kd.C_drewN ?_ _) | (with_reducible refine Kd.C_drew ?_))); (case side2 => exact (Kd.R_reads' HO_791001.out).2.1); (case side3 => repeat (first | exact (Kd.R_reads' HO_791002.out).2.2 | (with_reducible refine Kd.C_alloc ?_ _) | (with_reducible refine Kd.C_drewN ?_ _) | (with_reducible refine Kd.C_drew ?_))); (case side4 => exact (Kd.R_reads' HO_791002.out).2.1); rintro e w66 ⟨v804, rfl, ho0, hb⟩; refine ⟨_, rfl, ?_⟩; have n0_ := Aside0.mk (Kd.R_elder' (by (with_reducible repeat (first | apply Kd.R_alloc | apply Kd.R_drewN | apply Kd.R_drew)); exact HO_8.out) (Kd.R_base ho0) hb); have n1_ := Aside0.mk (Kd.R_elder' (by (with_reducible repeat (first | apply Kd.R_alloc | apply Kd.R_drewN | apply Kd.R_drew)); exact HO_791001.out) (Kd.R_base ho0) hb); have n2_ := Aside0.mk (Kd.R_elder' (by (with_reducible repeat (first | apply Kd.R_alloc | apply Kd.R_drewN | apply Kd.R_drew)); exact HO_791002.out) (Kd.R_base ho0) hb); have n3_ := Aside0.mk (Kd.R_lower (Kd.R_new' (Kd.R_new' (Kd.R_new' ho0 (Kd.R_lt (by (with_reducible repeat (first | apply Kd.R_alloc | apply Kd.R_drewN | apply Kd.R_drew)); exact HO_8.out))) (Kd.R_lt (by (with_reducible repeat (first | apply Kd.R_alloc | apply Kd.R_drewN | apply Kd.R_drew)); exact HO_791001.out))) (Kd.R_lt (by (with_reducible repeat (first | apply Kd.R_alloc | apply Kd.R_drewN | apply Kd.R_drew)); exact HO_791002.out))) (below_size (by repeat (first | (with_reducible first | exact HB.out | apply below_alloc | apply pw_below_drewN | apply below_drew1 | refine below_set ?_ GE782.out | refine below_set ?_ GE790.out) | exact HB.out)))); have n4_ := Aside0.mk (blk_below (g := gb782) (o := .cells #[.int .i64 a0_0, .slice A0_1 l0_1.length c0_1, .slice A0_2 l0_2.length c0_2] 24 (0, 0)) (by (with_reducible repeat (first | refine blk_drewN ?_ _ | refine blk_drew ?_ | refine blk_alloc ?_ _)); exact BK782.out) hb); have n5_ := Aside0.mk (blk_below (g := gb790) (o := .cells #[.int .i64 t783, .slice Ao13 t784.length co13, .slice Ao14 t787.length co14] 24 (0, 0)) (by (with_reducible repeat (first | refine blk_drewN ?_ _ | refine blk_drew ?_ | refine blk_alloc ?_ _)); exact BK790.out) hb); have n6_ := Aside0.mk (below_step (by repeat (first | (with_reducible first | exact HB.out | apply below_alloc | apply pw_below_drewN | apply below_drew1 | refine below_set ?_ GE782.out | refine below_set ?_ GE790.out) | exact HB.out)) hb); clear HO_8; clear HO_791001; clear HO_791002; clear BK782; clear BK790; clear HB; have HO_8 := n0_; have HO_791001 := n1_; have HO_791002 := n2_; have HO805 := n3_; have BK782 := n4_; have BK790 := n5_; have HB := n6_; clear n0_ n1_ n2_ n3_ n4_ n5_ n6_; (try clear hb); (try clear hb2); (try clear hk); (try clear hi); (try clear ho0); obtain ⟨Ao67, co67, eo67⟩ := Kd.R_slice HO_8.out; subst eo67; obtain ⟨Ao68, co68, eo68⟩ := Kd.R_slice HO805.out; subst eo68) | ((with_reducible refine gate_callee (f := 29) rfl ?_); refine goesL_ (some 90) rfl rfl Try.func29 (by kernel_rfl) rfl #[.slice Ao67 t793.length co67, .slice Ao68 t803.length co68] rfl (by (try simp only [List.map_toArray, List.map_cons, List.map_nil]); first | done | rfl | (simp only [List.length_drop, List.length_take]; rfl)) ?_; (with_reducible refine (remouldlaw06_ints.calls kj38 _ _ t793 _ _ t803 true _ ?side1 ?side2 ?side3 ?side4 A60.out).mono ?_); (case side1 => repeat (first | exact (Kd.R_reads' HO_8.out).2.2 | (with_reducible refine Kd.C_alloc ?_ _) | (with_reducible refine Kd.C_drewN ?_ _) | (with_reducible refine Kd.C_drew ?_))); (case side2 => exact (Kd.R_reads' HO_8.out).2.1); (case side3 => repeat (first | exact (Kd.R_reads' HO805.out).2.2 | (with_reducible refine Kd.C_alloc ?_ _) | (with_reducible refine Kd.C_drewN ?_ _) | (with_reducible refine Kd.C_drew ?_))); (case side4 => exact (Kd.R_reads' HO805.out).2.1); rintro e w' ⟨rfl, ⟨nd, rfl⟩⟩; refine ⟨_, rfl, ?_⟩) | (go_at_call 27; (with_reducible refine (remouldlaw06_awake.calls kj38  t808 _ A63.out).mono ?_); rintro e w69 ⟨rfl, hb⟩; have n0_ := Aside0.mk (Kd.R_below (by (with_reducible repeat (first | apply Kd.R_alloc | apply Kd.R_drewN | apply Kd.R_drew)); exact HO_8.out) hb); have n1_ := Aside0.mk (Kd.R_below (by (with_reducible repeat (first | apply Kd.R_alloc | apply Kd.R_drewN | apply Kd.R_drew)); exact HO_791001.out) hb); have n2_ := Aside0.mk (Kd.R_below (by (with_reducible repeat (first | apply Kd.R_alloc | apply Kd.R_drewN | apply Kd.R_drew)); exact HO_791002.out) hb); have n3_ := Aside0.mk (Kd.R_below (by (with_reducible repeat (first | apply Kd.R_alloc | apply Kd.R_drewN | apply Kd.R_drew)); exact HO805.out) hb); have n4_ := Aside0.mk (blk_below (g := gb782) (o := .cells #[.int .i64 a0_0, .slice A0_1 l0_1.length c0_1, .slice A0_2 l0_2.length c0_2] 24 (0, 0)) (by (with_reducible repeat (first | refine blk_drewN ?_ _ | refine blk_drew ?_ | refine blk_alloc ?_ _)); exact BK782.out) hb); have n5_ := Aside0.mk (blk_below (g := gb790) (o := .cells #[.int .i64 t783, .slice Ao13 t784.length co13, .slice Ao14 t787.length co14] 24 (0, 0)) (by (with_reducible repeat (first | refine blk_drewN ?_ _ | refine blk_drew ?_ | refine blk_alloc ?_ _)); exact BK790.out) hb); have n6_ := Aside0.mk (below_step (by repeat (first | (with_reducible first | exact HB.out | apply below_alloc | apply pw_below_drewN | apply below_drew1 | refine below_set ?_ GE782.out | refine below_set ?_ GE790.out) | exact HB.out)) hb); clear HO_8; clear HO_791001; clear HO_791002; clear HO805; clear BK782; clear BK790; clear HB; have HO_8 := n0_; have HO_791001 := n1_; have HO_791002 := n2_; have HO805 := n3_; have BK782 := n4_; have BK790 := n5_; have HB := n6_; clear n0_ n1_ n2_ n3_ n4_ n5_ n6_; (try clear hb); (try clear hb2); (try clear hk); (try clear hi)))
                  go_ret
                  exact ⟨by first | rfl | (simp [errW_none, errW_some] <;> rfl) | (simp [*, errW_none, errW_some] <;> rfl), by repeat (first | (with_reducible first | exact HB.out | apply below_alloc | apply pw_below_drewN | apply below_drew1 | refine below_set ?_ GE782.out | refine below_set ?_ GE790.out) | exact HB.out)⟩
                · rw [if_neg c62] at H
                  have c62b0 : (t796 == 0) = false := beq_eq_false_iff_ne.mpr c62
                  have c62b1 : (t796 != 0) = true := bne_iff_ne.mpr c62
                  obtain rfl := Option.some.inj H
                  have hnb70 := NB790_782.out
                  have hnc70 := NB782_790.out
                  have hcz71_0 : wc.cell? ⟨gb790, 0, none⟩ = some (.int .i64 t783) := (blk_cell BK790.out 0).trans rfl
                  have hcz71_1 : wc.cell? ⟨gb790, 1, none⟩ = some (.slice Ao13 t784.length co13) := (blk_cell BK790.out 1).trans rfl
                  have hcz71_2 : wc.cell? ⟨gb790, 2, none⟩ = some (.slice Ao14 t787.length co14) := (blk_cell BK790.out 2).trans rfl
                  have hfz71_0 := blk_frozen BK790.out 0
                  have hfz71_1 := blk_frozen BK790.out 1
                  have hfz71_2 := blk_frozen BK790.out 2
                  go_wp2_with (first | ((with_reducible refine gate_callee (f := 54) rfl ?_); refine goesL_ (some 73) rfl rfl Try.func54 (by kernel_rfl) rfl #[.agg #[.int .i64 t783, .slice Ao13 t784.length co13, .slice Ao14 t787.length co14], .int .i64 a1] rfl (by (try simp only [List.map_toArray, List.map_cons, List.map_nil]); first | done | rfl | (simp only [List.length_drop, List.length_take]; rfl)) ?_; (with_reducible refine (remouldref06_Back.calls kj38 t783 _ _ t784 _ _ t787 a1 t803 true _ ?side1 ?side2 ?side3 ?side4 A58.out).mono ?_); (case side1 => repeat (first | exact (Kd.R_reads' HO_791001.out).2.2 | (with_reducible refine Kd.C_alloc ?_ _) | (with_reducible refine Kd.C_drewN ?_ _) | (with_reducible refine Kd.C_drew ?_))); (case side2 => exact (Kd.R_reads' HO_791001.out).2.1); (case side3 => repeat (first | exact (Kd.R_reads' HO_791002.out).2.2 | (with_reducible refine Kd.C_alloc ?_ _) | (with_reducible refine Kd.C_drewN ?_ _) | (with_reducible refine Kd.C_drew ?_))); (case side4 => exact (Kd.R_reads' HO_791002.out).2.1); rintro e w72 ⟨v804, rfl, ho0, hb⟩; refine ⟨_, rfl, ?_⟩; have n0_ := Aside0.mk (Kd.R_elder' (by (with_reducible repeat (first | apply Kd.R_alloc | apply Kd.R_drewN | apply Kd.R_drew)); exact HO_8.out) (Kd.R_base ho0) hb); have n1_ := Aside0.mk (Kd.R_elder' (by (with_reducible repeat (first | apply Kd.R_alloc | apply Kd.R_drewN | apply Kd.R_drew)); exact HO_791001.out) (Kd.R_base ho0) hb); have n2_ := Aside0.mk (Kd.R_elder' (by (with_reducible repeat (first | apply Kd.R_alloc | apply Kd.R_drewN | apply Kd.R_drew)); exact HO_791002.out) (Kd.R_base ho0) hb); have n3_ := Aside0.mk (Kd.R_lower (Kd.R_new' (Kd.R_new' (Kd.R_new' ho0 (Kd.R_lt (by (with_reducible repeat (first | apply Kd.R_alloc | apply Kd.R_drewN | apply Kd.R_drew)); exact HO_8.out))) (Kd.R_lt (by (with_reducible repeat (first | apply Kd.R_alloc | apply Kd.R_drewN | apply Kd.R_drew)); exact HO_791001.out))) (Kd.R_lt (by (with_reducible repeat (first | apply Kd.R_alloc | apply Kd.R_drewN | apply Kd.R_drew)); exact HO_791002.out))) (below_size (by repeat (first | (with_reducible first | exact HB.out | apply below_alloc | apply pw_below_drewN | apply below_drew1 | refine below_set ?_ GE782.out | refine below_set ?_ GE790.out) | exact HB.out)))); have n4_ := Aside0.mk (blk_below (g := gb782) (o := .cells #[.int .i64 a0_0, .slice A0_1 l0_1.length c0_1, .slice A0_2 l0_2.length c0_2] 24 (0, 0)) (by (with_reducible repeat (first | refine blk_drewN ?_ _ | refine blk_drew ?_ | refine blk_alloc ?_ _)); exact BK782.out) hb); have n5_ := Aside0.mk (blk_below (g := gb790) (o := .cells #[.int .i64 t783, .slice Ao13 t784.length co13, .slice Ao14 t787.length co14] 24 (0, 0)) (by (with_reducible repeat (first | refine blk_drewN ?_ _ | refine blk_drew ?_ | refine blk_alloc ?_ _)); exact BK790.out) hb); have n6_ := Aside0.mk (below_step (by repeat (first | (with_reducible first | exact HB.out | apply below_alloc | apply pw_below_drewN | apply below_drew1 | refine below_set ?_ GE782.out | refine below_set ?_ GE790.out) | exact HB.out)) hb); clear HO_8; clear HO_791001; clear HO_791002; clear BK782; clear BK790; clear HB; have HO_8 := n0_; have HO_791001 := n1_; have HO_791002 := n2_; have HO805 := n3_; have BK782 := n4_; have BK790 := n5_; have HB := n6_; clear n0_ n1_ n2_ n3_ n4_ n5_ n6_; (try clear hb); (try clear hb2); (try clear hk); (try clear hi); (try clear ho0); obtain ⟨Ao73, co73, eo73⟩ := Kd.R_slice HO_8.out; subst eo73; obtain ⟨Ao74, co74, eo74⟩ := Kd.R_slice HO805.out; subst eo74) | ((with_reducible refine gate_callee (f := 29) rfl ?_); refine goesL_ (some 90) rfl rfl Try.func29 (by kernel_rfl) rfl #[.slice Ao73 t793.length co73, .slice Ao74 t803.length co74] rfl (by (try simp only [List.map_toArray, List.map_cons, List.map_nil]); first | done | rfl | (simp only [List.length_drop, List.length_take]; rfl)) ?_; (with_reducible refine (remouldlaw06_ints.calls kj38 _ _ t793 _ _ t803 true _ ?side1 ?side2 ?side3 ?side4 A60.out).mono ?_); (case side1 => repeat (first | exact (Kd.R_reads' HO_8.out).2.2 | (with_reducible refine Kd.C_alloc ?_ _) | (with_reducible refine Kd.C_drewN ?_ _) | (with_reducible refine Kd.C_drew ?_))); (case side2 => exact (Kd.R_reads' HO_8.out).2.1); (case side3 => repeat (first | exact (Kd.R_reads' HO805.out).2.2 | (with_reducible refine Kd.C_alloc ?_ _) | (with_reducible refine Kd.C_drewN ?_ _) | (with_reducible refine Kd.C_drew ?_))); (case side4 => exact (Kd.R_reads' HO805.out).2.1); rintro e w' ⟨rfl, ⟨nd, rfl⟩⟩; refine ⟨_, rfl, ?_⟩))
                  go_ret
                  exact ⟨by first | rfl | (simp [errW_none, errW_some] <;> rfl) | (simp [*, errW_none, errW_some] <;> rfl), by repeat (first | (with_reducible first | exact HB.out | apply below_alloc | apply pw_below_drewN | apply below_drew1 | refine below_set ?_ GE782.out | refine below_set ?_ GE790.out) | exact HB.out)⟩
              · replace c61 := Bool.eq_false_iff.mpr c61
                subst c61
                have H1 : (some false) = some r := by rw [if_neg (show ¬ (false = true) by decide)] at H; exact H
                clear H
                have H := H1
                clear H1
                obtain rfl := Option.some.inj H
                have hnb75 := NB790_782.out
                have hnc75 := NB782_790.out
                have hcz76_0 : wc.cell? ⟨gb790, 0, none⟩ = some (.int .i64 t783) := (blk_cell BK790.out 0).trans rfl
                have hcz76_1 : wc.cell? ⟨gb790, 1, none⟩ = some (.slice Ao13 t784.length co13) := (blk_cell BK790.out 1).trans rfl
                have hcz76_2 : wc.cell? ⟨gb790, 2, none⟩ = some (.slice Ao14 t787.length co14) := (blk_cell BK790.out 2).trans rfl
                have hfz76_0 := blk_frozen BK790.out 0
                have hfz76_1 := blk_frozen BK790.out 1
                have hfz76_2 := blk_frozen BK790.out 2
                go_wp2_with (first | ((with_reducible refine gate_callee (f := 54) rfl ?_); refine goesL_ (some 73) rfl rfl Try.func54 (by kernel_rfl) rfl #[.agg #[.int .i64 t783, .slice Ao13 t784.length co13, .slice Ao14 t787.length co14], .int .i64 a1] rfl (by (try simp only [List.map_toArray, List.map_cons, List.map_nil]); first | done | rfl | (simp only [List.length_drop, List.length_take]; rfl)) ?_; (with_reducible refine (remouldref06_Back.calls kj38 t783 _ _ t784 _ _ t787 a1 t803 true _ ?side1 ?side2 ?side3 ?side4 A58.out).mono ?_); (case side1 => repeat (first | exact (Kd.R_reads' HO_791001.out).2.2 | (with_reducible refine Kd.C_alloc ?_ _) | (with_reducible refine Kd.C_drewN ?_ _) | (with_reducible refine Kd.C_drew ?_))); (case side2 => exact (Kd.R_reads' HO_791001.out).2.1); (case side3 => repeat (first | exact (Kd.R_reads' HO_791002.out).2.2 | (with_reducible refine Kd.C_alloc ?_ _) | (with_reducible refine Kd.C_drewN ?_ _) | (with_reducible refine Kd.C_drew ?_))); (case side4 => exact (Kd.R_reads' HO_791002.out).2.1); rintro e w77 ⟨v804, rfl, ho0, hb⟩; refine ⟨_, rfl, ?_⟩; have n0_ := Aside0.mk (Kd.R_elder' (by (with_reducible repeat (first | apply Kd.R_alloc | apply Kd.R_drewN | apply Kd.R_drew)); exact HO_8.out) (Kd.R_base ho0) hb); have n1_ := Aside0.mk (Kd.R_elder' (by (with_reducible repeat (first | apply Kd.R_alloc | apply Kd.R_drewN | apply Kd.R_drew)); exact HO_791001.out) (Kd.R_base ho0) hb); have n2_ := Aside0.mk (Kd.R_elder' (by (with_reducible repeat (first | apply Kd.R_alloc | apply Kd.R_drewN | apply Kd.R_drew)); exact HO_791002.out) (Kd.R_base ho0) hb); have n3_ := Aside0.mk (Kd.R_lower (Kd.R_new' (Kd.R_new' (Kd.R_new' ho0 (Kd.R_lt (by (with_reducible repeat (first | apply Kd.R_alloc | apply Kd.R_drewN | apply Kd.R_drew)); exact HO_8.out))) (Kd.R_lt (by (with_reducible repeat (first | apply Kd.R_alloc | apply Kd.R_drewN | apply Kd.R_drew)); exact HO_791001.out))) (Kd.R_lt (by (with_reducible repeat (first | apply Kd.R_alloc | apply Kd.R_drewN | apply Kd.R_drew)); exact HO_791002.out))) (below_size (by repeat (first | (with_reducible first | exact HB.out | apply below_alloc | apply pw_below_drewN | apply below_drew1 | refine below_set ?_ GE782.out | refine below_set ?_ GE790.out) | exact HB.out)))); have n4_ := Aside0.mk (blk_below (g := gb782) (o := .cells #[.int .i64 a0_0, .slice A0_1 l0_1.length c0_1, .slice A0_2 l0_2.length c0_2] 24 (0, 0)) (by (with_reducible repeat (first | refine blk_drewN ?_ _ | refine blk_drew ?_ | refine blk_alloc ?_ _)); exact BK782.out) hb); have n5_ := Aside0.mk (blk_below (g := gb790) (o := .cells #[.int .i64 t783, .slice Ao13 t784.length co13, .slice Ao14 t787.length co14] 24 (0, 0)) (by (with_reducible repeat (first | refine blk_drewN ?_ _ | refine blk_drew ?_ | refine blk_alloc ?_ _)); exact BK790.out) hb); have n6_ := Aside0.mk (below_step (by repeat (first | (with_reducible first | exact HB.out | apply below_alloc | apply pw_below_drewN | apply below_drew1 | refine below_set ?_ GE782.out | refine below_set ?_ GE790.out) | exact HB.out)) hb); clear HO_8; clear HO_791001; clear HO_791002; clear BK782; clear BK790; clear HB; have HO_8 := n0_; have HO_791001 := n1_; have HO_791002 := n2_; have HO805 := n3_; have BK782 := n4_; have BK790 := n5_; have HB := n6_; clear n0_ n1_ n2_ n3_ n4_ n5_ n6_; (try clear hb); (try clear hb2); (try clear hk); (try clear hi); (try clear ho0); obtain ⟨Ao78, co78, eo78⟩ := Kd.R_slice HO_8.out; subst eo78; obtain ⟨Ao79, co79, eo79⟩ := Kd.R_slice HO805.out; subst eo79) | ((with_reducible refine gate_callee (f := 29) rfl ?_); refine goesL_ (some 90) rfl rfl Try.func29 (by kernel_rfl) rfl #[.slice Ao78 t793.length co78, .slice Ao79 t803.length co79] rfl (by (try simp only [List.map_toArray, List.map_cons, List.map_nil]); first | done | rfl | (simp only [List.length_drop, List.length_take]; rfl)) ?_; (with_reducible refine (remouldlaw06_ints.calls kj38 _ _ t793 _ _ t803 false _ ?side1 ?side2 ?side3 ?side4 A60.out).mono ?_); (case side1 => repeat (first | exact (Kd.R_reads' HO_8.out).2.2 | (with_reducible refine Kd.C_alloc ?_ _) | (with_reducible refine Kd.C_drewN ?_ _) | (with_reducible refine Kd.C_drew ?_))); (case side2 => exact (Kd.R_reads' HO_8.out).2.1); (case side3 => repeat (first | exact (Kd.R_reads' HO805.out).2.2 | (with_reducible refine Kd.C_alloc ?_ _) | (with_reducible refine Kd.C_drewN ?_ _) | (with_reducible refine Kd.C_drew ?_))); (case side4 => exact (Kd.R_reads' HO805.out).2.1); rintro e w' ⟨rfl, ⟨nd, rfl⟩⟩; refine ⟨_, rfl, ?_⟩))
                go_ret
                exact ⟨by first | rfl | (simp [errW_none, errW_some] <;> rfl) | (simp [*, errW_none, errW_some] <;> rfl), by repeat (first | (with_reducible first | exact HB.out | apply below_alloc | apply pw_below_drewN | apply below_drew1 | refine below_set ?_ GE782.out | refine below_set ?_ GE790.out) | exact HB.out)⟩
            · replace c59 := Bool.eq_false_iff.mpr c59
              subst c59
              have H1 : (if (t793.length : Int) = 0 then (if t796 = 5 then ((remouldlaw06_awake.f kj38).bind fun t809 => (some t809)) else (some false)) else (some false)) = some r := by rw [if_neg (show ¬ (false = true) by decide)] at H; exact H
              clear H
              have H := H1
              clear H1
              by_cases c80 : (t793.length : Int) = 0
              · rw [if_pos c80] at H
                have c80b0 : ((t793.length : Int) == 0) = true := beq_iff_eq.mpr c80
                have c80b1 : ((t793.length : Int) != 0) = false := bne_eq_false_iff_eq.mpr c80
                clear c80
                by_cases c81 : t796 = 5
                · rw [if_pos c81] at H
                  have c81b0 : (t796 == 5) = true := beq_iff_eq.mpr c81
                  have c81b1 : (t796 != 5) = false := bne_eq_false_iff_eq.mpr c81
                  clear c81
                  replace H := Option.bind_eq_some_iff.mp H
                  obtain ⟨t809, A820, H⟩ := H
                  replace H : (some t809) = some r := H
                  have A82 := Aside0.mk A820
                  clear A820
                  obtain rfl := Option.some.inj H
                  have hnb83 := NB790_782.out
                  have hnc83 := NB782_790.out
                  have hcz84_0 : wc.cell? ⟨gb790, 0, none⟩ = some (.int .i64 t783) := (blk_cell BK790.out 0).trans rfl
                  have hcz84_1 : wc.cell? ⟨gb790, 1, none⟩ = some (.slice Ao13 t784.length co13) := (blk_cell BK790.out 1).trans rfl
                  have hcz84_2 : wc.cell? ⟨gb790, 2, none⟩ = some (.slice Ao14 t787.length co14) := (blk_cell BK790.out 2).trans rfl
                  have hfz84_0 := blk_frozen BK790.out 0
                  have hfz84_1 := blk_frozen BK790.out 1
                  have hfz84_2 := blk_frozen BK790.out 2
                  go_wp2_with (first | ((with_reducible refine gate_callee (f := 54) rfl ?_); refine goesL_ (some 73) rfl rfl Try.func54 (by kernel_rfl) rfl #[.agg #[.int .i64 t783, .slice Ao13 t784.length co13, .slice Ao14 t787.length co14], .int .i64 a1] rfl (by (try simp only [List.map_toArray, List.map_cons, List.map_nil]); first | done | rfl | (simp only [List.length_drop, List.length_take]; rfl)) ?_; (with_reducible refine (remouldref06_Back.calls kj38 t783 _ _ t784 _ _ t787 a1 t803 false _ ?side1 ?side2 ?side3 ?side4 A58.out).mono ?_); (case side1 => repeat (first | exact (Kd.R_reads' HO_791001.out).2.2 | (with_reducible refine Kd.C_alloc ?_ _) | (with_reducible refine Kd.C_drewN ?_ _) | (with_reducible refine Kd.C_drew ?_))); (case side2 => exact (Kd.R_reads' HO_791001.out).2.1); (case side3 => repeat (first | exact (Kd.R_reads' HO_791002.out).2.2 | (with_reducible refine Kd.C_alloc ?_ _) | (with_reducible refine Kd.C_drewN ?_ _) | (with_reducible refine Kd.C_drew ?_))); (case side4 => exact (Kd.R_reads' HO_791002.out).2.1); rintro e w85 ⟨v804, rfl, ho0, hb⟩; refine ⟨_, rfl, ?_⟩; have n0_ := Aside0.mk (Kd.R_elder' (by (with_reducible repeat (first | apply Kd.R_alloc | apply Kd.R_drewN | apply Kd.R_drew)); exact HO_8.out) (Kd.R_base ho0) hb); have n1_ := Aside0.mk (Kd.R_elder' (by (with_reducible repeat (first | apply Kd.R_alloc | apply Kd.R_drewN | apply Kd.R_drew)); exact HO_791001.out) (Kd.R_base ho0) hb); have n2_ := Aside0.mk (Kd.R_elder' (by (with_reducible repeat (first | apply Kd.R_alloc | apply Kd.R_drewN | apply Kd.R_drew)); exact HO_791002.out) (Kd.R_base ho0) hb); have n3_ := Aside0.mk (Kd.R_lower (Kd.R_new' (Kd.R_new' (Kd.R_new' ho0 (Kd.R_lt (by (with_reducible repeat (first | apply Kd.R_alloc | apply Kd.R_drewN | apply Kd.R_drew)); exact HO_8.out))) (Kd.R_lt (by (with_reducible repeat (first | apply Kd.R_alloc | apply Kd.R_drewN | apply Kd.R_drew)); exact HO_791001.out))) (Kd.R_lt (by (with_reducible repeat (first | apply Kd.R_alloc | apply Kd.R_drewN | apply Kd.R_drew)); exact HO_791002.out))) (below_size (by repeat (first | (with_reducible first | exact HB.out | apply below_alloc | apply pw_below_drewN | apply below_drew1 | refine below_set ?_ GE782.out | refine below_set ?_ GE790.out) | exact HB.out)))); have n4_ := Aside0.mk (blk_below (g := gb782) (o := .cells #[.int .i64 a0_0, .slice A0_1 l0_1.length c0_1, .slice A0_2 l0_2.length c0_2] 24 (0, 0)) (by (with_reducible repeat (first | refine blk_drewN ?_ _ | refine blk_drew ?_ | refine blk_alloc ?_ _)); exact BK782.out) hb); have n5_ := Aside0.mk (blk_below (g := gb790) (o := .cells #[.int .i64 t783, .slice Ao13 t784.length co13, .slice Ao14 t787.length co14] 24 (0, 0)) (by (with_reducible repeat (first | refine blk_drewN ?_ _ | refine blk_drew ?_ | refine blk_alloc ?_ _)); exact BK790.out) hb); have n6_ := Aside0.mk (below_step (by repeat (first | (with_reducible first | exact HB.out | apply below_alloc | apply pw_below_drewN | apply below_drew1 | refine below_set ?_ GE782.out | refine below_set ?_ GE790.out) | exact HB.out)) hb); clear HO_8; clear HO_791001; clear HO_791002; clear BK782; clear BK790; clear HB; have HO_8 := n0_; have HO_791001 := n1_; have HO_791002 := n2_; have HO805 := n3_; have BK782 := n4_; have BK790 := n5_; have HB := n6_; clear n0_ n1_ n2_ n3_ n4_ n5_ n6_; (try clear hb); (try clear hb2); (try clear hk); (try clear hi); (try clear ho0); obtain ⟨Ao86, co86, eo86⟩ := Kd.R_slice HO_8.out; subst eo86) | (go_at_call 27; (with_reducible refine (remouldlaw06_awake.calls kj38  t809 _ A82.out).mono ?_); rintro e w87 ⟨rfl, hb⟩; have n0_ := Aside0.mk (Kd.R_below (by (with_reducible repeat (first | apply Kd.R_alloc | apply Kd.R_drewN | apply Kd.R_drew)); exact HO_8.out) hb); have n1_ := Aside0.mk (Kd.R_below (by (with_reducible repeat (first | apply Kd.R_alloc | apply Kd.R_drewN | apply Kd.R_drew)); exact HO_791001.out) hb); have n2_ := Aside0.mk (Kd.R_below (by (with_reducible repeat (first | apply Kd.R_alloc | apply Kd.R_drewN | apply Kd.R_drew)); exact HO_791002.out) hb); have n3_ := Aside0.mk (Kd.R_below (by (with_reducible repeat (first | apply Kd.R_alloc | apply Kd.R_drewN | apply Kd.R_drew)); exact HO805.out) hb); have n4_ := Aside0.mk (blk_below (g := gb782) (o := .cells #[.int .i64 a0_0, .slice A0_1 l0_1.length c0_1, .slice A0_2 l0_2.length c0_2] 24 (0, 0)) (by (with_reducible repeat (first | refine blk_drewN ?_ _ | refine blk_drew ?_ | refine blk_alloc ?_ _)); exact BK782.out) hb); have n5_ := Aside0.mk (blk_below (g := gb790) (o := .cells #[.int .i64 t783, .slice Ao13 t784.length co13, .slice Ao14 t787.length co14] 24 (0, 0)) (by (with_reducible repeat (first | refine blk_drewN ?_ _ | refine blk_drew ?_ | refine blk_alloc ?_ _)); exact BK790.out) hb); have n6_ := Aside0.mk (below_step (by repeat (first | (with_reducible first | exact HB.out | apply below_alloc | apply pw_below_drewN | apply below_drew1 | refine below_set ?_ GE782.out | refine below_set ?_ GE790.out) | exact HB.out)) hb); clear HO_8; clear HO_791001; clear HO_791002; clear HO805; clear BK782; clear BK790; clear HB; have HO_8 := n0_; have HO_791001 := n1_; have HO_791002 := n2_; have HO805 := n3_; have BK782 := n4_; have BK790 := n5_; have HB := n6_; clear n0_ n1_ n2_ n3_ n4_ n5_ n6_; (try clear hb); (try clear hb2); (try clear hk); (try clear hi)))
                  go_ret
                  exact ⟨by first | rfl | (simp [errW_none, errW_some] <;> rfl) | (simp [*, errW_none, errW_some] <;> rfl), by repeat (first | (with_reducible first | exact HB.out | apply below_alloc | apply pw_below_drewN | apply below_drew1 | refine below_set ?_ GE782.out | refine below_set ?_ GE790.out) | exact HB.out)⟩
                · rw [if_neg c81] at H
                  have c81b0 : (t796 == 5) = false := beq_eq_false_iff_ne.mpr c81
                  have c81b1 : (t796 != 5) = true := bne_iff_ne.mpr c81
                  obtain rfl := Option.some.inj H
                  have hnb88 := NB790_782.out
                  have hnc88 := NB782_790.out
                  have hcz89_0 : wc.cell? ⟨gb790, 0, none⟩ = some (.int .i64 t783) := (blk_cell BK790.out 0).trans rfl
                  have hcz89_1 : wc.cell? ⟨gb790, 1, none⟩ = some (.slice Ao13 t784.length co13) := (blk_cell BK790.out 1).trans rfl
                  have hcz89_2 : wc.cell? ⟨gb790, 2, none⟩ = some (.slice Ao14 t787.length co14) := (blk_cell BK790.out 2).trans rfl
                  have hfz89_0 := blk_frozen BK790.out 0
                  have hfz89_1 := blk_frozen BK790.out 1
                  have hfz89_2 := blk_frozen BK790.out 2
                  go_wp2_with (first | ((with_reducible refine gate_callee (f := 54) rfl ?_); refine goesL_ (some 73) rfl rfl Try.func54 (by kernel_rfl) rfl #[.agg #[.int .i64 t783, .slice Ao13 t784.length co13, .slice Ao14 t787.length co14], .int .i64 a1] rfl (by (try simp only [List.map_toArray, List.map_cons, List.map_nil]); first | done | rfl | (simp only [List.length_drop, List.length_take]; rfl)) ?_; (with_reducible refine (remouldref06_Back.calls kj38 t783 _ _ t784 _ _ t787 a1 t803 false _ ?side1 ?side2 ?side3 ?side4 A58.out).mono ?_); (case side1 => repeat (first | exact (Kd.R_reads' HO_791001.out).2.2 | (with_reducible refine Kd.C_alloc ?_ _) | (with_reducible refine Kd.C_drewN ?_ _) | (with_reducible refine Kd.C_drew ?_))); (case side2 => exact (Kd.R_reads' HO_791001.out).2.1); (case side3 => repeat (first | exact (Kd.R_reads' HO_791002.out).2.2 | (with_reducible refine Kd.C_alloc ?_ _) | (with_reducible refine Kd.C_drewN ?_ _) | (with_reducible refine Kd.C_drew ?_))); (case side4 => exact (Kd.R_reads' HO_791002.out).2.1); rintro e w90 ⟨v804, rfl, ho0, hb⟩; refine ⟨_, rfl, ?_⟩; have n0_ := Aside0.mk (Kd.R_elder' (by (with_reducible repeat (first | apply Kd.R_alloc | apply Kd.R_drewN | apply Kd.R_drew)); exact HO_8.out) (Kd.R_base ho0) hb); have n1_ := Aside0.mk (Kd.R_elder' (by (with_reducible repeat (first | apply Kd.R_alloc | apply Kd.R_drewN | apply Kd.R_drew)); exact HO_791001.out) (Kd.R_base ho0) hb); have n2_ := Aside0.mk (Kd.R_elder' (by (with_reducible repeat (first | apply Kd.R_alloc | apply Kd.R_drewN | apply Kd.R_drew)); exact HO_791002.out) (Kd.R_base ho0) hb); have n3_ := Aside0.mk (Kd.R_lower (Kd.R_new' (Kd.R_new' (Kd.R_new' ho0 (Kd.R_lt (by (with_reducible repeat (first | apply Kd.R_alloc | apply Kd.R_drewN | apply Kd.R_drew)); exact HO_8.out))) (Kd.R_lt (by (with_reducible repeat (first | apply Kd.R_alloc | apply Kd.R_drewN | apply Kd.R_drew)); exact HO_791001.out))) (Kd.R_lt (by (with_reducible repeat (first | apply Kd.R_alloc | apply Kd.R_drewN | apply Kd.R_drew)); exact HO_791002.out))) (below_size (by repeat (first | (with_reducible first | exact HB.out | apply below_alloc | apply pw_below_drewN | apply below_drew1 | refine below_set ?_ GE782.out | refine below_set ?_ GE790.out) | exact HB.out)))); have n4_ := Aside0.mk (blk_below (g := gb782) (o := .cells #[.int .i64 a0_0, .slice A0_1 l0_1.length c0_1, .slice A0_2 l0_2.length c0_2] 24 (0, 0)) (by (with_reducible repeat (first | refine blk_drewN ?_ _ | refine blk_drew ?_ | refine blk_alloc ?_ _)); exact BK782.out) hb); have n5_ := Aside0.mk (blk_below (g := gb790) (o := .cells #[.int .i64 t783, .slice Ao13 t784.length co13, .slice Ao14 t787.length co14] 24 (0, 0)) (by (with_reducible repeat (first | refine blk_drewN ?_ _ | refine blk_drew ?_ | refine blk_alloc ?_ _)); exact BK790.out) hb); have n6_ := Aside0.mk (below_step (by repeat (first | (with_reducible first | exact HB.out | apply below_alloc | apply pw_below_drewN | apply below_drew1 | refine below_set ?_ GE782.out | refine below_set ?_ GE790.out) | exact HB.out)) hb); clear HO_8; clear HO_791001; clear HO_791002; clear BK782; clear BK790; clear HB; have HO_8 := n0_; have HO_791001 := n1_; have HO_791002 := n2_; have HO805 := n3_; have BK782 := n4_; have BK790 := n5_; have HB := n6_; clear n0_ n1_ n2_ n3_ n4_ n5_ n6_; (try clear hb); (try clear hb2); (try clear hk); (try clear hi); (try clear ho0); obtain ⟨Ao91, co91, eo91⟩ := Kd.R_slice HO_8.out; subst eo91))
                  go_ret
                  exact ⟨by first | rfl | (simp [errW_none, errW_some] <;> rfl) | (simp [*, errW_none, errW_some] <;> rfl), by repeat (first | (with_reducible first | exact HB.out | apply below_alloc | apply pw_below_drewN | apply below_drew1 | refine below_set ?_ GE782.out | refine below_set ?_ GE790.out) | exact HB.out)⟩
              · rw [if_neg c80] at H
                have c80b0 : ((t793.length : Int) == 0) = false := beq_eq_false_iff_ne.mpr c80
                have c80b1 : ((t793.length : Int) != 0) = true := bne_iff_ne.mpr c80
                have c80b2 : ¬ (t793 = []) := fun h_ => c80 (by rw [h_]; rfl)
                obtain rfl := Option.some.inj H
                have hnb92 := NB790_782.out
                have hnc92 := NB782_790.out
                have hcz93_0 : wc.cell? ⟨gb790, 0, none⟩ = some (.int .i64 t783) := (blk_cell BK790.out 0).trans rfl
                have hcz93_1 : wc.cell? ⟨gb790, 1, none⟩ = some (.slice Ao13 t784.length co13) := (blk_cell BK790.out 1).trans rfl
                have hcz93_2 : wc.cell? ⟨gb790, 2, none⟩ = some (.slice Ao14 t787.length co14) := (blk_cell BK790.out 2).trans rfl
                have hfz93_0 := blk_frozen BK790.out 0
                have hfz93_1 := blk_frozen BK790.out 1
                have hfz93_2 := blk_frozen BK790.out 2
                go_wp2_with (first | ((with_reducible refine gate_callee (f := 54) rfl ?_); refine goesL_ (some 73) rfl rfl Try.func54 (by kernel_rfl) rfl #[.agg #[.int .i64 t783, .slice Ao13 t784.length co13, .slice Ao14 t787.length co14], .int .i64 a1] rfl (by (try simp only [List.map_toArray, List.map_cons, List.map_nil]); first | done | rfl | (simp only [List.length_drop, List.length_take]; rfl)) ?_; (with_reducible refine (remouldref06_Back.calls kj38 t783 _ _ t784 _ _ t787 a1 t803 false _ ?side1 ?side2 ?side3 ?side4 A58.out).mono ?_); (case side1 => repeat (first | exact (Kd.R_reads' HO_791001.out).2.2 | (with_reducible refine Kd.C_alloc ?_ _) | (with_reducible refine Kd.C_drewN ?_ _) | (with_reducible refine Kd.C_drew ?_))); (case side2 => exact (Kd.R_reads' HO_791001.out).2.1); (case side3 => repeat (first | exact (Kd.R_reads' HO_791002.out).2.2 | (with_reducible refine Kd.C_alloc ?_ _) | (with_reducible refine Kd.C_drewN ?_ _) | (with_reducible refine Kd.C_drew ?_))); (case side4 => exact (Kd.R_reads' HO_791002.out).2.1); rintro e w94 ⟨v804, rfl, ho0, hb⟩; refine ⟨_, rfl, ?_⟩; have n0_ := Aside0.mk (Kd.R_elder' (by (with_reducible repeat (first | apply Kd.R_alloc | apply Kd.R_drewN | apply Kd.R_drew)); exact HO_8.out) (Kd.R_base ho0) hb); have n1_ := Aside0.mk (Kd.R_elder' (by (with_reducible repeat (first | apply Kd.R_alloc | apply Kd.R_drewN | apply Kd.R_drew)); exact HO_791001.out) (Kd.R_base ho0) hb); have n2_ := Aside0.mk (Kd.R_elder' (by (with_reducible repeat (first | apply Kd.R_alloc | apply Kd.R_drewN | apply Kd.R_drew)); exact HO_791002.out) (Kd.R_base ho0) hb); have n3_ := Aside0.mk (Kd.R_lower (Kd.R_new' (Kd.R_new' (Kd.R_new' ho0 (Kd.R_lt (by (with_reducible repeat (first | apply Kd.R_alloc | apply Kd.R_drewN | apply Kd.R_drew)); exact HO_8.out))) (Kd.R_lt (by (with_reducible repeat (first | apply Kd.R_alloc | apply Kd.R_drewN | apply Kd.R_drew)); exact HO_791001.out))) (Kd.R_lt (by (with_reducible repeat (first | apply Kd.R_alloc | apply Kd.R_drewN | apply Kd.R_drew)); exact HO_791002.out))) (below_size (by repeat (first | (with_reducible first | exact HB.out | apply below_alloc | apply pw_below_drewN | apply below_drew1 | refine below_set ?_ GE782.out | refine below_set ?_ GE790.out) | exact HB.out)))); have n4_ := Aside0.mk (blk_below (g := gb782) (o := .cells #[.int .i64 a0_0, .slice A0_1 l0_1.length c0_1, .slice A0_2 l0_2.length c0_2] 24 (0, 0)) (by (with_reducible repeat (first | refine blk_drewN ?_ _ | refine blk_drew ?_ | refine blk_alloc ?_ _)); exact BK782.out) hb); have n5_ := Aside0.mk (blk_below (g := gb790) (o := .cells #[.int .i64 t783, .slice Ao13 t784.length co13, .slice Ao14 t787.length co14] 24 (0, 0)) (by (with_reducible repeat (first | refine blk_drewN ?_ _ | refine blk_drew ?_ | refine blk_alloc ?_ _)); exact BK790.out) hb); have n6_ := Aside0.mk (below_step (by repeat (first | (with_reducible first | exact HB.out | apply below_alloc | apply pw_below_drewN | apply below_drew1 | refine below_set ?_ GE782.out | refine below_set ?_ GE790.out) | exact HB.out)) hb); clear HO_8; clear HO_791001; clear HO_791002; clear BK782; clear BK790; clear HB; have HO_8 := n0_; have HO_791001 := n1_; have HO_791002 := n2_; have HO805 := n3_; have BK782 := n4_; have BK790 := n5_; have HB := n6_; clear n0_ n1_ n2_ n3_ n4_ n5_ n6_; (try clear hb); (try clear hb2); (try clear hk); (try clear hi); (try clear ho0); obtain ⟨Ao95, co95, eo95⟩ := Kd.R_slice HO_8.out; subst eo95))
                go_ret
                exact ⟨by first | rfl | (simp [errW_none, errW_some] <;> rfl) | (simp [*, errW_none, errW_some] <;> rfl), by repeat (first | (with_reducible first | exact HB.out | apply below_alloc | apply pw_below_drewN | apply below_drew1 | refine below_set ?_ GE782.out | refine below_set ?_ GE790.out) | exact HB.out)⟩

end Go.Proofs.Ytkjojcepombhpaa.L
