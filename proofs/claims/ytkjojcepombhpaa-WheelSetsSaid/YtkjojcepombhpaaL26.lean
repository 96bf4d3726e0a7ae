-- PRINTED by print.py (a twelfth state) out of the translation. Not trusted: Lean checks it.
import Derived.Test.YtkjojcepombhpaaL0
import Derived.Test.YtkjojcepombhpaaL2
import Derived.Test.YtkjojcepombhpaaL3
import Derived.Test.YtkjojcepombhpaaL4
import Derived.Test.YtkjojcepombhpaaL25
import Derived.Test.YtkjojcepombhpaaXSets
namespace Go.Proofs.Ytkjojcepombhpaa.L
open Go.RowKit Go.Proofs.YtkjojcepombhpaaW.PrintWords Go.Proofs.YtkjojcepombhpaaW.PrintLast Go.Proofs.YtkjojcepombhpaaW.PrintMore
attribute [local go_sem] max2_int min2_int max_two min_two max_three min_three max_four min_four   -- for this text's walks alone
set_option linter.unusedVariables false
set_option linter.unusedSimpArgs false

/-! ### remouldlaw06_WheelSets: function 15 -/
def remouldlaw06_WheelSets.j0 : Nat → Int → Int → List Int → Int → Bool → Int → List Int → List Int → Option (Bool)
  | 0, _, _, _, _, _, _, _, _ => none
  | k + 1, x1, x2, x8, x9, x35, x717000, x717001, x717002 => if x35 = true then (if (x8.length : Int) = 0 then (if x9 = 2 then ((remouldlaw06_awake.f k).bind fun t723 => (some t723)) else (some false)) else (some false)) else ((remouldref06_Sets.f k x717000 x717001 x717002 x1 x2).bind fun bt724 => (if bt724.2 = true then ((remouldlaw06_ints.f k x8 bt724.1).bind fun t728 => (if t728 = true then (if x9 = 0 then ((remouldlaw06_awake.f k).bind fun t729 => (some t729)) else (some false)) else (some false))) else (if (x8.length : Int) = 0 then (if x9 = 5 then ((remouldlaw06_awake.f k).bind fun t730 => (some t730)) else (some false)) else (some false))))
def remouldlaw06_WheelSets.f (k : Nat) (a0_0 : Int) (l0_1 : List Int) (l0_2 : List Int) (a1 : Int) (a2 : Int) : Option (Bool) := (remouldlaw06_rule.f a0_0 l0_1 l0_2).bind fun bt709 => ((wheel_Sets.f bt709.1 bt709.2.1 bt709.2.2 a1 a2).bind fun bt717 => ((remouldref06_Rule.f k bt709.1 bt709.2.1 bt709.2.2).bind fun t721 => (if t721 = true then ((remouldref06_Large.f a1).bind fun t722 => (if t722 = true then (remouldlaw06_WheelSets.j0 k a1 a2 bt717.1 bt717.2 true bt709.1 bt709.2.1 bt709.2.2) else (if a2 < 0 then (remouldlaw06_WheelSets.j0 k a1 a2 bt717.1 bt717.2 true bt709.1 bt709.2.1 bt709.2.2) else (remouldlaw06_WheelSets.j0 k a1 a2 bt717.1 bt717.2 (decide (a2 > 8)) bt709.1 bt709.2.1 bt709.2.2)))) else (remouldlaw06_WheelSets.j0 k a1 a2 bt717.1 bt717.2 true bt709.1 bt709.2.1 bt709.2.2))))
theorem remouldlaw06_WheelSets.mono_l : ∀ k, (∀ y0 y1 y2 y3 y4 y5 y6 y7, LeO (remouldlaw06_WheelSets.j0 k y0 y1 y2 y3 y4 y5 y6 y7) (remouldlaw06_WheelSets.j0 (k + 1) y0 y1 y2 y3 y4 y5 y6 y7))
  | 0 => fun _ _ _ _ _ _ _ _ r h => by simp [remouldlaw06_WheelSets.j0] at h
  | k + 1 => by
    have ih0 := remouldlaw06_WheelSets.mono_l k
    · intro y0 y1 y2 y3 y4 y5 y6 y7
      unfold remouldlaw06_WheelSets.j0
      repeat' first
      | (with_reducible exact ih0 _ _ _ _ _ _ _ _)
      | (with_reducible exact remouldlaw06_awake.mono _)
      | (with_reducible exact remouldlaw06_ints.mono _ _ _)
      | (with_reducible exact remouldref06_Rule.mono _ _ _ _)
      | (with_reducible exact remouldref06_Sets.mono _ _ _ _ _ _)
      | (with_reducible exact LeO.refl _)
      | (with_reducible exact LeO.none _)
      | (with_reducible refine LeO.ite ?_ ?_)
      | (with_reducible refine LeO.bind ?_ (fun _ => ?_))
      | exact ih0 _ _ _ _ _ _ _ _
      | exact remouldlaw06_awake.mono _
      | exact remouldlaw06_ints.mono _ _ _
      | exact remouldref06_Rule.mono _ _ _ _
      | exact remouldref06_Sets.mono _ _ _ _ _ _
      | exact LeO.none _
      | refine LeO.ite ?_ ?_
      | refine LeO.bind ?_ (fun _ => ?_)
theorem remouldlaw06_WheelSets.mono : ∀ a0 a1 a2 a3 a4 k, LeO (remouldlaw06_WheelSets.f k a0 a1 a2 a3 a4) (remouldlaw06_WheelSets.f (k + 1) a0 a1 a2 a3 a4) := by
  intro a0 a1 a2 a3 a4 k
  have ih0 := remouldlaw06_WheelSets.mono_l k
  unfold remouldlaw06_WheelSets.f
  repeat' first
      | (with_reducible exact ih0 _ _ _ _ _ _ _ _)
      | (with_reducible exact remouldlaw06_awake.mono _)
      | (with_reducible exact remouldlaw06_ints.mono _ _ _)
      | (with_reducible exact remouldref06_Rule.mono _ _ _ _)
      | (with_reducible exact remouldref06_Sets.mono _ _ _ _ _ _)
      | (with_reducible exact LeO.refl _)
      | (with_reducible exact LeO.none _)
      | (with_reducible refine LeO.ite ?_ ?_)
      | (with_reducible refine LeO.bind ?_ (fun _ => ?_))
      | exact ih0 _ _ _ _ _ _ _ _
      | exact remouldlaw06_awake.mono _
      | exact remouldlaw06_ints.mono _ _ _
      | exact remouldref06_Rule.mono _ _ _ _
      | exact remouldref06_Sets.mono _ _ _ _ _ _
      | exact LeO.none _
      | refine LeO.ite ?_ ?_
      | refine LeO.bind ?_ (fun _ => ?_)
set_option maxHeartbeats 8000000 in
set_option maxRecDepth 100000 in
theorem remouldlaw06_WheelSets.calls (k : Nat) (a0_0 : Int) (A0_1 : Option Addr) (c0_1 : Nat) (l0_1 : List Int) (A0_2 : Option Addr) (c0_2 : Nat) (l0_2 : List Int) (a1 : Int) (a2 : Int) (r : Bool) (w : World) (hr0_1 : Kd.C (Kd.int .i64) w A0_1 l0_1.length l0_1) (hc0_1 : l0_1.length ≤ c0_1) (hr0_2 : Kd.C (Kd.int .i64) w A0_2 l0_2.length l0_2) (hc0_2 : l0_2.length ≤ c0_2) (h : remouldlaw06_WheelSets.f k a0_0 l0_1 l0_2 a1 a2 = some r) :
    Calls Try.prog 15 #[.agg #[.int .i64 a0_0, .slice A0_1 l0_1.length c0_1, .slice A0_2 l0_2.length c0_2], .int .i64 a1, .int .i64 a2] w fun e w' => e = .returned (.bool r) ∧ Below w.heap.size w w' := by
  have hu24 := Try.underlying24
  have HR0_1 := Aside0.mk hr0_1
  have HC0_1 := Aside0.mk hc0_1
  clear hr0_1 hc0_1
  have HR0_2 := Aside0.mk hr0_2
  have HC0_2 := Aside0.mk hc0_2
  clear hr0_2 hc0_2
  have HB := Aside0.mk (Below.refl w.heap.size w)
  have H : ((remouldlaw06_rule.f a0_0 l0_1 l0_2).bind fun bt709 => ((wheel_Sets.f bt709.1 bt709.2.1 bt709.2.2 a1 a2).bind fun bt717 => ((remouldref06_Rule.f k bt709.1 bt709.2.1 bt709.2.2).bind fun t721 => (if t721 = true then ((remouldref06_Large.f a1).bind fun t722 => (if t722 = true then (remouldlaw06_WheelSets.j0 k a1 a2 bt717.1 bt717.2 true bt709.1 bt709.2.1 bt709.2.2) else (if a2 < 0 then (remouldlaw06_WheelSets.j0 k a1 a2 bt717.1 bt717.2 true bt709.1 bt709.2.1 bt709.2.2) else (remouldlaw06_WheelSets.j0 k a1 a2 bt717.1 bt717.2 (decide (a2 > 8)) bt709.1 bt709.2.1 bt709.2.2)))) else (remouldlaw06_WheelSets.j0 k a1 a2 bt717.1 bt717.2 true bt709.1 bt709.2.1 bt709.2.2))))) = some r := h
  clear h
  replace H := Option.bind_eq_some_iff.mp H
  obtain ⟨⟨t709, t710, t713⟩, A40, H⟩ := H
  replace H : ((wheel_Sets.f t709 t710 t713 a1 a2).bind fun bt717 => ((remouldref06_Rule.f k t709 t710 t713).bind fun t721 => (if t721 = true then ((remouldref06_Large.f a1).bind fun t722 => (if t722 = true then (remouldlaw06_WheelSets.j0 k a1 a2 bt717.1 bt717.2 true t709 t710 t713) else (if a2 < 0 then (remouldlaw06_WheelSets.j0 k a1 a2 bt717.1 bt717.2 true t709 t710 t713) else (remouldlaw06_WheelSets.j0 k a1 a2 bt717.1 bt717.2 (decide (a2 > 8)) t709 t710 t713)))) else (remouldlaw06_WheelSets.j0 k a1 a2 bt717.1 bt717.2 true t709 t710 t713)))) = some r := H
  have A4 := Aside0.mk A40
  clear A40
  replace H := Option.bind_eq_some_iff.mp H
  obtain ⟨⟨t717, t720⟩, A50, H⟩ := H
  replace H : ((remouldref06_Rule.f k t709 t710 t713).bind fun t721 => (if t721 = true then ((remouldref06_Large.f a1).bind fun t722 => (if t722 = true then (remouldlaw06_WheelSets.j0 k a1 a2 t717 t720 true t709 t710 t713) else (if a2 < 0 then (remouldlaw06_WheelSets.j0 k a1 a2 t717 t720 true t709 t710 t713) else (remouldlaw06_WheelSets.j0 k a1 a2 t717 t720 (decide (a2 > 8)) t709 t710 t713)))) else (remouldlaw06_WheelSets.j0 k a1 a2 t717 t720 true t709 t710 t713))) = some r := H
  have A5 := Aside0.mk A50
  clear A50
  have HC6 := Aside0.mk H
  clear H
  go_enter Try.func15, Try.ntmps15
  go_upto_region 3 with (first | ((with_reducible refine gate_dst (N := 3) rfl ?_); refine box_event ?hg (N := 3) ?hd (cs := #[.int .i64 a0_0, .slice A0_1 l0_1.length c0_1, .slice A0_2 l0_2.length c0_2]) (t := 24) ?hr ?_; (case hd => rfl); (case hg => rfl); (case hr => first | (go_simp; done) | (go_simp; rfl)); intro gb708 hg w7 hbox hb; have n0_ := Aside0.mk (below_step (by repeat (first | (with_reducible first | exact HB.out | apply below_alloc | apply pw_below_drewN | apply below_drew1) | exact HB.out)) hb); have n1_ := Aside0.mk (hbox); have n2_ := Aside0.mk ((by rw [hg]; exact (below_size (by repeat (first | (with_reducible first | exact HB.out | apply below_alloc | apply pw_below_drewN | apply below_drew1) | exact HB.out))) : w.heap.size ≤ gb708)); have n3_ := Aside0.mk ((by rw [hg]; exact (below_size (by repeat (first | (with_reducible first | exact HB.out | apply below_alloc | apply pw_below_drewN | apply below_drew1) | exact HB.out))) : w.heap.size ≤ gb708)); clear HB; have HB := n0_; have BK708 := n1_; have GW708 := n2_; have GE708 := n3_; clear n0_ n1_ n2_ n3_; clear hb hbox hg; have hcz8_0 : w7.cell? ⟨gb708, 0, none⟩ = some (.int .i64 a0_0) := (blk_cell BK708.out 0).trans rfl; have hcz8_1 : w7.cell? ⟨gb708, 1, none⟩ = some (.slice A0_1 l0_1.length c0_1) := (blk_cell BK708.out 1).trans rfl; have hcz8_2 : w7.cell? ⟨gb708, 2, none⟩ = some (.slice A0_2 l0_2.length c0_2) := (blk_cell BK708.out 2).trans rfl; have hfz8_0 := blk_frozen BK708.out 0; have hfz8_1 := blk_frozen BK708.out 1; have hfz8_2 := blk_frozen BK708.out 2) | ((with_reducible refine gate_callee (f := 23) rfl ?_); refine goesL_ (some 13) rfl rfl Try.func23 (by kernel_rfl) rfl #[.agg #[.int .i64 a0_0, .slice A0_1 l0_1.length c0_1, .slice A0_2 l0_2.length c0_2]] rfl (by (try simp only [List.map_toArray, List.map_cons, List.map_nil]); first | done | rfl | (simp only [List.length_drop, List.length_take]; rfl)) ?_; (with_reducible refine (remouldlaw06_rule.calls a0_0 _ _ l0_1 _ _ l0_2 t709 t710 t713 _ ?side1 ?side2 ?side3 ?side4 A4.out).mono ?_); (case side1 => repeat (first | exact (Kd.C_below HR0_1.out HB.out) | (with_reducible refine Kd.C_alloc ?_ _) | (with_reducible refine Kd.C_drewN ?_ _) | (with_reducible refine Kd.C_drew ?_))); (case side2 => exact HC0_1.out); (case side3 => repeat (first | exact (Kd.C_below HR0_2.out HB.out) | (with_reducible refine Kd.C_alloc ?_ _) | (with_reducible refine Kd.C_drewN ?_ _) | (with_reducible refine Kd.C_drew ?_))); (case side4 => exact HC0_2.out); rintro e w9 ⟨v711, v714, rfl, ho0, ho1, hb⟩; refine ⟨_, rfl, ?_⟩; have n0_ := Aside0.mk (Kd.R_lower ho0 (below_size (by repeat (first | (with_reducible first | exact HB.out | apply below_alloc | apply pw_below_drewN | apply below_drew1 | refine below_set ?_ GE708.out) | exact HB.out)))); have n1_ := Aside0.mk (Kd.R_lower ho1 (below_size (by repeat (first | (with_reducible first | exact HB.out | apply below_alloc | apply pw_below_drewN | apply below_drew1 | refine below_set ?_ GE708.out) | exact HB.out)))); have n2_ := Aside0.mk (blk_below (g := gb708) (o := .cells #[.int .i64 a0_0, .slice A0_1 l0_1.length c0_1, .slice A0_2 l0_2.length c0_2] 24 (0, 0)) (by (with_reducible repeat (first | refine blk_drewN ?_ _ | refine blk_drew ?_ | refine blk_alloc ?_ _)); exact BK708.out) hb); have n3_ := Aside0.mk (below_step (by repeat (first | (with_reducible first | exact HB.out | apply below_alloc | apply pw_below_drewN | apply below_drew1 | refine below_set ?_ GE708.out) | exact HB.out)) hb); clear BK708; clear HB; have HO712 := n0_; have HO715 := n1_; have BK708 := n2_; have HB := n3_; clear n0_ n1_ n2_ n3_; (try clear hb); (try clear hb2); (try clear hk); (try clear hi); (try clear ho0); (try clear ho1)) | ((with_reducible refine gate_dst (N := 7) rfl ?_); refine box_event ?hg (N := 7) ?hd (cs := #[.int .i64 0, .slice none 0 0, .slice none 0 0]) (t := 24) ?hr ?_; (case hd => rfl); (case hg => rfl); (case hr => first | (go_simp; done) | (go_simp; rfl)); intro gb716 hg w10 hbox hb; have n0_ := Aside0.mk (Kd.R_below (by (with_reducible repeat (first | apply Kd.R_alloc | apply Kd.R_drewN | apply Kd.R_drew)); exact HO712.out) hb); have n1_ := Aside0.mk (Kd.R_below (by (with_reducible repeat (first | apply Kd.R_alloc | apply Kd.R_drewN | apply Kd.R_drew)); exact HO715.out) hb); have n2_ := Aside0.mk (blk_below (g := gb708) (o := .cells #[.int .i64 a0_0, .slice A0_1 l0_1.length c0_1, .slice A0_2 l0_2.length c0_2] 24 (0, 0)) (by (with_reducible repeat (first | refine blk_drewN ?_ _ | refine blk_drew ?_ | refine blk_alloc ?_ _)); exact BK708.out) hb); have n3_ := Aside0.mk (below_step (by repeat (first | (with_reducible first | exact HB.out | apply below_alloc | apply pw_below_drewN | apply below_drew1 | refine below_set ?_ GE708.out) | exact HB.out)) hb); have n4_ := Aside0.mk (hbox); have n5_ := Aside0.mk ((by rw [hg]; exact (below_size (by repeat (first | (with_reducible first | exact HB.out | apply below_alloc | apply pw_below_drewN | apply below_drew1 | refine below_set ?_ GE708.out) | exact HB.out))) : w.heap.size ≤ gb716)); have n6_ := Aside0.mk ((by rw [hg]; exact (below_size (by repeat (first | (with_reducible first | exact HB.out | apply below_alloc | apply pw_below_drewN | apply below_drew1 | refine below_set ?_ GE708.out) | exact HB.out))) : w.heap.size ≤ gb716)); have n7_ := Aside0.mk ((by rw [hg]; exact Nat.ne_of_lt (blk_lt (g := gb708) (o := .cells #[.int .i64 a0_0, .slice A0_1 l0_1.length c0_1, .slice A0_2 l0_2.length c0_2] 24 (0, 0)) (by (with_reducible repeat (first | refine blk_drewN ?_ _ | refine blk_drew ?_ | refine blk_alloc ?_ _)); exact BK708.out)) : gb708 ≠ gb716)); have n8_ := Aside0.mk ((by rw [hg]; exact Nat.ne_of_gt (blk_lt (g := gb708) (o := .cells #[.int .i64 a0_0, .slice A0_1 l0_1.length c0_1, .slice A0_2 l0_2.length c0_2] 24 (0, 0)) (by (with_reducible repeat (first | refine blk_drewN ?_ _ | refine blk_drew ?_ | refine blk_alloc ?_ _)); exact BK708.out)) : gb716 ≠ gb708)); clear HO712; clear HO715; clear BK708; clear HB; have HO712 := n0_; have HO715 := n1_; have BK708 := n2_; have HB := n3_; have BK716 := n4_; have GW716 := n5_; have GE716 := n6_; have NB708_716 := n7_; have NB716_708 := n8_; clear n0_ n1_ n2_ n3_ n4_ n5_ n6_ n7_ n8_; clear hb hbox hg; have hnb11 := NB716_708.out; have hnc11 := NB708_716.out; have hcz12_0 : w10.cell? ⟨gb716, 0, none⟩ = some (.int .i64 0) := (blk_cell BK716.out 0).trans rfl; have hcz12_1 : w10.cell? ⟨gb716, 1, none⟩ = some (.slice none 0 0) := (blk_cell BK716.out 1).trans rfl; have hcz12_2 : w10.cell? ⟨gb716, 2, none⟩ = some (.slice none 0 0) := (blk_cell BK716.out 2).trans rfl; have hfz12_0 := blk_frozen BK716.out 0; have hfz12_1 := blk_frozen BK716.out 1; have hfz12_2 := blk_frozen BK716.out 2; obtain ⟨Ao13, co13, eo13⟩ := Kd.R_slice HO712.out; subst eo13; obtain ⟨Ao14, co14, eo14⟩ := Kd.R_slice HO715.out; subst eo14) | ((with_reducible refine gate_callee (f := 51) rfl ?_); refine goesL_ (some 18) rfl rfl Try.func51 (by kernel_rfl) rfl #[.agg #[.int .i64 t709, .slice Ao13 t710.length co13, .slice Ao14 t713.length co14], .int .i64 a1, .int .i64 a2] rfl (by (try simp only [List.map_toArray, List.map_cons, List.map_nil]); first | done | rfl | (simp only [List.length_drop, List.length_take]; rfl)) ?_; (with_reducible refine (wheel_Sets.calls t709 _ _ t710 _ _ t713 a1 a2 t717 t720 _ ?side1 ?side2 ?side3 ?side4 A5.out).mono ?_); (case side1 => refine (Kd.R_reads' (e := 3) (base := w.heap.size) (ok := fun k_ => some k_ ≠ (.slice Ao14 t713.length co14 : Value).ownBlock) (n := t710.length) (c := co13) ?_).2.2; exact (by (with_reducible repeat (first | apply Kd.R_alloc | apply Kd.R_drewN | apply Kd.R_drew)); exact (Kd.R_mono (Kd.R_far (p := ⟨gb716, 2, none⟩) (Kd.R_far (p := ⟨gb716, 1, none⟩) (Kd.R_far (p := ⟨gb716, 0, none⟩) (Kd.R_types HO712.out BK716.out (by decide)) (fun _ hk => hk.2) (.int .i64 t709)) (fun _ hk => hk.2) (.slice Ao13 t710.length co13)) (fun _ hk => hk.2) (.slice Ao14 t713.length co14)) (fun _ h_ => h_.1)))); (case side2 => exact (Kd.R_reads' HO712.out).2.1); (case side3 => refine (Kd.R_reads' (e := 3) (base := w.heap.size) (ok := fun k_ => some k_ ≠ (.slice Ao13 t710.length co13 : Value).ownBlock) (n := t713.length) (c := co14) ?_).2.2; exact (by (with_reducible repeat (first | apply Kd.R_alloc | apply Kd.R_drewN | apply Kd.R_drew)); exact (Kd.R_mono (Kd.R_far (p := ⟨gb716, 2, none⟩) (Kd.R_far (p := ⟨gb716, 1, none⟩) (Kd.R_far (p := ⟨gb716, 0, none⟩) (Kd.R_types HO715.out BK716.out (by decide)) (fun _ hk => hk.2) (.int .i64 t709)) (fun _ hk => hk.2) (.slice Ao13 t710.length co13)) (fun _ hk => hk.2) (.slice Ao14 t713.length co14)) (fun _ h_ => h_.1)))); (case side4 => exact (Kd.R_reads' HO715.out).2.1); rintro e w15 ⟨v718, rfl, ho0, hb⟩; refine ⟨_, rfl, ?_⟩; have n0_ := Aside0.mk (Kd.R_elder' (by (with_reducible repeat (first | apply Kd.R_alloc | apply Kd.R_drewN | apply Kd.R_drew)); exact (Kd.R_mono (Kd.R_far (p := ⟨gb716, 2, none⟩) (Kd.R_far (p := ⟨gb716, 1, none⟩) (Kd.R_far (p := ⟨gb716, 0, none⟩) (Kd.R_types HO712.out BK716.out (by decide)) (fun _ hk => hk.2) (.int .i64 t709)) (fun _ hk => hk.2) (.slice Ao13 t710.length co13)) (fun _ hk => hk.2) (.slice Ao14 t713.length co14)) (fun _ h_ => h_.1))) (Kd.R_base ho0) hb); have n1_ := Aside0.mk (Kd.R_elder' (by (with_reducible repeat (first | apply Kd.R_alloc | apply Kd.R_drewN | apply Kd.R_drew)); exact (Kd.R_mono (Kd.R_far (p := ⟨gb716, 2, none⟩) (Kd.R_far (p := ⟨gb716, 1, none⟩) (Kd.R_far (p := ⟨gb716, 0, none⟩) (Kd.R_types HO715.out BK716.out (by decide)) (fun _ hk => hk.2) (.int .i64 t709)) (fun _ hk => hk.2) (.slice Ao13 t710.length co13)) (fun _ hk => hk.2) (.slice Ao14 t713.length co14)) (fun _ h_ => h_.1))) (Kd.R_base ho0) hb); have n2_ := Aside0.mk (Kd.R_lower (Kd.R_new' (Kd.R_new' ho0 (Kd.R_lt (by (with_reducible repeat (first | apply Kd.R_alloc | apply Kd.R_drewN | apply Kd.R_drew)); exact (Kd.R_mono (Kd.R_far (p := ⟨gb716, 2, none⟩) (Kd.R_far (p := ⟨gb716, 1, none⟩) (Kd.R_far (p := ⟨gb716, 0, none⟩) (Kd.R_types HO712.out BK716.out (by decide)) (fun _ hk => hk.2) (.int .i64 t709)) (fun _ hk => hk.2) (.slice Ao13 t710.length co13)) (fun _ hk => hk.2) (.slice Ao14 t713.length co14)) (fun _ h_ => h_.1))))) (Kd.R_lt (by (with_reducible repeat (first | apply Kd.R_alloc | apply Kd.R_drewN | apply Kd.R_drew)); exact (Kd.R_mono (Kd.R_far (p := ⟨gb716, 2, none⟩) (Kd.R_far (p := ⟨gb716, 1, none⟩) (Kd.R_far (p := ⟨gb716, 0, none⟩) (Kd.R_types HO715.out BK716.out (by decide)) (fun _ hk => hk.2) (.int .i64 t709)) (fun _ hk => hk.2) (.slice Ao13 t710.length co13)) (fun _ hk => hk.2) (.slice Ao14 t713.length co14)) (fun _ h_ => h_.1))))) (below_size (by repeat (first | (with_reducible first | exact HB.out | apply below_alloc | apply pw_below_drewN | apply below_drew1 | refine below_set ?_ GE708.out | refine below_set ?_ GE716.out) | exact HB.out)))); have n3_ := Aside0.mk (blk_below (g := gb708) (o := .cells #[.int .i64 a0_0, .slice A0_1 l0_1.length c0_1, .slice A0_2 l0_2.length c0_2] 24 (0, 0)) (by (with_reducible repeat (first | refine blk_drewN ?_ _ | refine blk_drew ?_ | refine blk_alloc ?_ _)); refine blk_far ?_ NB708_716.out _; (with_reducible repeat (first | refine blk_drewN ?_ _ | refine blk_drew ?_ | refine blk_alloc ?_ _)); refine blk_far ?_ NB708_716.out _; (with_reducible repeat (first | refine blk_drewN ?_ _ | refine blk_drew ?_ | refine blk_alloc ?_ _)); refine blk_far ?_ NB708_716.out _; (with_reducible repeat (first | refine blk_drewN ?_ _ | refine blk_drew ?_ | refine blk_alloc ?_ _)); exact BK708.out) hb); have n4_ := Aside0.mk (blk_below (g := gb716) (o := .cells #[.int .i64 t709, .slice Ao13 t710.length co13, .slice Ao14 t713.length co14] 24 (0, 0)) (by (with_reducible repeat (first | refine blk_drewN ?_ _ | refine blk_drew ?_ | refine blk_alloc ?_ _)); refine blk_put (cs := #[.int .i64 t709, .slice Ao13 t710.length co13, .slice none 0 0]) ?_ 2 _ rfl; (with_reducible repeat (first | refine blk_drewN ?_ _ | refine blk_drew ?_ | refine blk_alloc ?_ _)); refine blk_put (cs := #[.int .i64 t709, .slice none 0 0, .slice none 0 0]) ?_ 1 _ rfl; (with_reducible repeat (first | refine blk_drewN ?_ _ | refine blk_drew ?_ | refine blk_alloc ?_ _)); refine blk_put (cs := #[.int .i64 0, .slice none 0 0, .slice none 0 0]) ?_ 0 _ rfl; (with_reducible repeat (first | refine blk_drewN ?_ _ | refine blk_drew ?_ | refine blk_alloc ?_ _)); exact BK716.out) hb); have n5_ := Aside0.mk (below_step (by repeat (first | (with_reducible first | exact HB.out | apply below_alloc | apply pw_below_drewN | apply below_drew1 | refine below_set ?_ GE708.out | refine below_set ?_ GE716.out) | exact HB.out)) hb); clear HO712; clear HO715; clear BK708; clear BK716; clear HB; have HO712 := n0_; have HO715 := n1_; have HO719 := n2_; have BK708 := n3_; have BK716 := n4_; have HB := n5_; clear n0_ n1_ n2_ n3_ n4_ n5_; (try clear hb); (try clear hb2); (try clear hk); (try clear hi); (try clear ho0)))
  (try simp only [Act.put, List.setIfInBounds_toArray, List.set_cons_zero, List.set_cons_succ])
  go_cut [35] (fun v35 wc => ∃ (kq : Nat) (x35_5 : Bool), v35 = .bool x35_5 ∧ Aside0 (remouldlaw06_WheelSets.j0 kq a1 a2 t717 t720 x35_5 t709 t710 t713 = some r) ∧ Aside0 (kq ≤ k) ∧ Aside0 (Kd.R (Kd.int .i64) 3 wc w.heap.size (fun k_ => some k_ ≠ ((.slice Ao13 t710.length co13) : Value).ownBlock ∧ some k_ ≠ ((.slice Ao14 t713.length co14) : Value).ownBlock) v718 t717) ∧ Aside0 (Kd.R (Kd.int .i64) 3 wc w.heap.size (fun k_ => some k_ ≠ (v718 : Value).ownBlock ∧ some k_ ≠ ((.slice Ao14 t713.length co14) : Value).ownBlock) (.slice Ao13 t710.length co13) t710) ∧ Aside0 (Kd.R (Kd.int .i64) 3 wc w.heap.size (fun k_ => some k_ ≠ (v718 : Value).ownBlock ∧ some k_ ≠ ((.slice Ao13 t710.length co13) : Value).ownBlock) (.slice Ao14 t713.length co14) t713) ∧ Aside0 (wc.heap[gb708]? = some (.cells #[.int .i64 a0_0, (.slice A0_1 l0_1.length c0_1), (.slice A0_2 l0_2.length c0_2)] 24 (0, 0))) ∧ Aside0 (wc.heap[gb716]? = some (.cells #[.int .i64 t709, (.slice Ao13 t710.length co13), (.slice Ao14 t713.length co14)] 24 (0, 0))) ∧ Aside0 (Below w.heap.size w wc))
  case first =>
    have H := HC6.out
    clear HC6
    replace H := Option.bind_eq_some_iff.mp H
    obtain ⟨t721, A160, H⟩ := H
    replace H : (if t721 = true then ((remouldref06_Large.f a1).bind fun t722 => (if t722 = true then (remouldlaw06_WheelSets.j0 k a1 a2 t717 t720 true t709 t710 t713) else (if a2 < 0 then (remouldlaw06_WheelSets.j0 k a1 a2 t717 t720 true t709 t710 t713) else (remouldlaw06_WheelSets.j0 k a1 a2 t717 t720 (decide (a2 > 8)) t709 t710 t713)))) else (remouldlaw06_WheelSets.j0 k a1 a2 t717 t720 true t709 t710 t713)) = some r := H
    have A16 := Aside0.mk A160
    clear A160
    by_cases c17 : t721 = true
    · subst c17
      have H1 : ((remouldref06_Large.f a1).bind fun t722 => (if t722 = true then (remouldlaw06_WheelSets.j0 k a1 a2 t717 t720 true t709 t710 t713) else (if a2 < 0 then (remouldlaw06_WheelSets.j0 k a1 a2 t717 t720 true t709 t710 t713) else (remouldlaw06_WheelSets.j0 k a1 a2 t717 t720 (decide (a2 > 8)) t709 t710 t713)))) = some r := by rw [if_pos rfl] at H; exact H
      clear H
      have H := H1
      clear H1
      replace H := Option.bind_eq_some_iff.mp H
      obtain ⟨t722, A180, H⟩ := H
      replace H : (if t722 = true then (remouldlaw06_WheelSets.j0 k a1 a2 t717 t720 true t709 t710 t713) else (if a2 < 0 then (remouldlaw06_WheelSets.j0 k a1 a2 t717 t720 true t709 t710 t713) else (remouldlaw06_WheelSets.j0 k a1 a2 t717 t720 (decide (a2 > 8)) t709 t710 t713))) = some r := H
      have A18 := Aside0.mk A180
      clear A180
      by_cases c19 : t722 = true
      · subst c19
        have H1 : (remouldlaw06_WheelSets.j0 k a1 a2 t717 t720 true t709 t710 t713) = some r := by rw [if_pos rfl] at H; exact H
        clear H
        have H := H1
        clear H1
        have H' := Aside0.mk H
        clear H
        have hnb20 := NB716_708.out
        have hnc20 := NB708_716.out
        have hcz21_0 : w15.cell? ⟨gb716, 0, none⟩ = some (.int .i64 t709) := (blk_cell BK716.out 0).trans rfl
        have hcz21_1 : w15.cell? ⟨gb716, 1, none⟩ = some (.slice Ao13 t710.length co13) := (blk_cell BK716.out 1).trans rfl
        have hcz21_2 : w15.cell? ⟨gb716, 2, none⟩ = some (.slice Ao14 t713.length co14) := (blk_cell BK716.out 2).trans rfl
        have hfz21_0 := blk_frozen BK716.out 0
        have hfz21_1 := blk_frozen BK716.out 1
        have hfz21_2 := blk_frozen BK716.out 2
        go_wp2_with (first | ((with_reducible refine gate_callee (f := 25) rfl ?_); refine goesL_ (some 22) rfl rfl Try.func25 (by kernel_rfl) rfl #[.agg #[.int .i64 t709, .slice Ao13 t710.length co13, .slice Ao14 t713.length co14]] rfl (by (try simp only [List.map_toArray, List.map_cons, List.map_nil]); first | done | rfl | (simp only [List.length_drop, List.length_take]; rfl)) ?_; (with_reducible refine (remouldref06_Rule.calls k t709 _ _ t710 _ _ t713 true _ ?side1 ?side2 ?side3 ?side4 A16.out).mono ?_); (case side1 => repeat (first | exact (Kd.R_reads' HO712.out).2.2 | (with_reducible refine Kd.C_alloc ?_ _) | (with_reducible refine Kd.C_drewN ?_ _) | (with_reducible refine Kd.C_drew ?_))); (case side2 => exact (Kd.R_reads' HO712.out).2.1); (case side3 => repeat (first | exact (Kd.R_reads' HO715.out).2.2 | (with_reducible refine Kd.C_alloc ?_ _) | (with_reducible refine Kd.C_drewN ?_ _) | (with_reducible refine Kd.C_drew ?_))); (case side4 => exact (Kd.R_reads' HO715.out).2.1); rintro e w22 ⟨rfl, hb⟩; refine ⟨_, rfl, ?_⟩; have n0_ := Aside0.mk (Kd.R_below (by (with_reducible repeat (first | apply Kd.R_alloc | apply Kd.R_drewN | apply Kd.R_drew)); exact HO712.out) hb); have n1_ := Aside0.mk (Kd.R_below (by (with_reducible repeat (first | apply Kd.R_alloc | apply Kd.R_drewN | apply Kd.R_drew)); exact HO715.out) hb); have n2_ := Aside0.mk (Kd.R_below (by (with_reducible repeat (first | apply Kd.R_alloc | apply Kd.R_drewN | apply Kd.R_drew)); exact HO719.out) hb); have n3_ := Aside0.mk (blk_below (g := gb708) (o := .cells #[.int .i64 a0_0, .slice A0_1 l0_1.length c0_1, .slice A0_2 l0_2.length c0_2] 24 (0, 0)) (by (with_reducible repeat (first | refine blk_drewN ?_ _ | refine blk_drew ?_ | refine blk_alloc ?_ _)); exact BK708.out) hb); have n4_ := Aside0.mk (blk_below (g := gb716) (o := .cells #[.int .i64 t709, .slice Ao13 t710.length co13, .slice Ao14 t713.length co14] 24 (0, 0)) (by (with_reducible repeat (first | refine blk_drewN ?_ _ | refine blk_drew ?_ | refine blk_alloc ?_ _)); exact BK716.out) hb); have n5_ := Aside0.mk (below_step (by repeat (first | (with_reducible first | exact HB.out | apply below_alloc | apply pw_below_drewN | apply below_drew1 | refine below_set ?_ GE708.out | refine below_set ?_ GE716.out) | exact HB.out)) hb); clear HO712; clear HO715; clear HO719; clear BK708; clear BK716; clear HB; have HO712 := n0_; have HO715 := n1_; have HO719 := n2_; have BK708 := n3_; have BK716 := n4_; have HB := n5_; clear n0_ n1_ n2_ n3_ n4_ n5_; (try clear hb); (try clear hb2); (try clear hk); (try clear hi)) | (go_at_call 26; (with_reducible refine (remouldref06_Large.calls a1 true _ A18.out).mono ?_); rintro e w' ⟨rfl, ⟨nd, rfl⟩⟩))
        go_meet
        case rel => exact ⟨_, (true), (by first | rfl | (simp; done) | (simp [*]; done)), H', ⟨by first | omega | exact Nat.le_refl _⟩, ⟨by (with_reducible repeat (first | apply Kd.R_alloc | apply Kd.R_drewN | apply Kd.R_drew)); exact Kd.R_mono HO719.out (fun _ hk => ⟨hk.1.2, hk.2⟩)⟩, ⟨by (with_reducible repeat (first | apply Kd.R_alloc | apply Kd.R_drewN | apply Kd.R_drew)); exact Kd.R_mono HO712.out (fun _ hk => ⟨hk.2, hk.1⟩)⟩, ⟨by (with_reducible repeat (first | apply Kd.R_alloc | apply Kd.R_drewN | apply Kd.R_drew)); exact Kd.R_mono HO715.out (fun _ hk => ⟨hk.2, hk.1⟩)⟩, ⟨by (with_reducible repeat (first | refine blk_drewN ?_ _ | refine blk_drew ?_ | refine blk_alloc ?_ _)); exact BK708.out⟩, ⟨by (with_reducible repeat (first | refine blk_drewN ?_ _ | refine blk_drew ?_ | refine blk_alloc ?_ _)); exact BK716.out⟩, ⟨by repeat (first | (with_reducible first | exact HB.out | apply below_alloc | apply pw_below_drewN | apply below_drew1 | refine below_set ?_ GE708.out | refine below_set ?_ GE716.out) | exact HB.out)⟩⟩
      · replace c19 := Bool.eq_false_iff.mpr c19
        subst c19
        have H1 : (if a2 < 0 then (remouldlaw06_WheelSets.j0 k a1 a2 t717 t720 true t709 t710 t713) else (remouldlaw06_WheelSets.j0 k a1 a2 t717 t720 (decide (a2 > 8)) t709 t710 t713)) = some r := by rw [if_neg (show ¬ (false = true) by decide)] at H; exact H
        clear H
        have H := H1
        clear H1
        by_cases c23 : a2 < 0
        · rw [if_pos c23] at H
          have c23b0 : decide (a2 < 0) = true := decide_eq_true c23
          clear c23
          (first | rw [c23b0] | (simp only [i64_w, i32_w]; rw [c23b0]) | skip)
          have H' := Aside0.mk H
          clear H
          have hnb24 := NB716_708.out
          have hnc24 := NB708_716.out
          have hcz25_0 : w15.cell? ⟨gb716, 0, none⟩ = some (.int .i64 t709) := (blk_cell BK716.out 0).trans rfl
          have hcz25_1 : w15.cell? ⟨gb716, 1, none⟩ = some (.slice Ao13 t710.length co13) := (blk_cell BK716.out 1).trans rfl
          have hcz25_2 : w15.cell? ⟨gb716, 2, none⟩ = some (.slice Ao14 t713.length co14) := (blk_cell BK716.out 2).trans rfl
          have hfz25_0 := blk_frozen BK716.out 0
          have hfz25_1 := blk_frozen BK716.out 1
          have hfz25_2 := blk_frozen BK716.out 2
          go_wp2_with (first | ((with_reducible refine gate_callee (f := 25) rfl ?_); refine goesL_ (some 22) rfl rfl Try.func25 (by kernel_rfl) rfl #[.agg #[.int .i64 t709, .slice Ao13 t710.length co13, .slice Ao14 t713.length co14]] rfl (by (try simp only [List.map_toArray, List.map_cons, List.map_nil]); first | done | rfl | (simp only [List.length_drop, List.length_take]; rfl)) ?_; (with_reducible refine (remouldref06_Rule.calls k t709 _ _ t710 _ _ t713 true _ ?side1 ?side2 ?side3 ?side4 A16.out).mono ?_); (case side1 => repeat (first | exact (Kd.R_reads' HO712.out).2.2 | (with_reducible refine Kd.C_alloc ?_ _) | (with_reducible refine Kd.C_drewN ?_ _) | (with_reducible refine Kd.C_drew ?_))); (case side2 => exact (Kd.R_reads' HO712.out).2.1); (case side3 => repeat (first | exact (Kd.R_reads' HO715.out).2.2 | (with_reducible refine Kd.C_alloc ?_ _) | (with_reducible refine Kd.C_drewN ?_ _) | (with_reducible refine Kd.C_drew ?_))); (case side4 => exact (Kd.R_reads' HO715.out).2.1); rintro e w26 ⟨rfl, hb⟩; refine ⟨_, rfl, ?_⟩; have n0_ := Aside0.mk (Kd.R_below (by (with_reducible repeat (first | apply Kd.R_alloc | apply Kd.R_drewN | apply Kd.R_drew)); exact HO712.out) hb); have n1_ := Aside0.mk (Kd.R_below (by (with_reducible repeat (first | apply Kd.R_alloc | apply Kd.R_drewN | apply Kd.R_drew)); exact HO715.out) hb); have n2_ := Aside0.mk (Kd.R_below (by (with_reducible repeat (first | apply Kd.R_alloc | apply Kd.R_drewN | apply Kd.R_drew)); exact HO719.out) hb); have n3_ := Aside0.mk (blk_below (g := gb708) (o := .cells #[.int .i64 a0_0, .slice A0_1 l0_1.length c0_1, .slice A0_2 l0_2.length c0_2] 24 (0, 0)) (by (with_reducible repeat (first | refine blk_drewN ?_ _ | refine blk_drew ?_ | refine blk_alloc ?_ _)); exact BK708.out) hb); have n4_ := Aside0.mk (blk_below (g := gb716) (o := .cells #[.int .i64 t709, .slice Ao13 t710.length co13, .slice Ao14 t713.length co14] 24 (0, 0)) (by (with_reducible repeat (first | refine blk_drewN ?_ _ | refine blk_drew ?_ | refine blk_alloc ?_ _)); exact BK716.out) hb); have n5_ := Aside0.mk (below_step (by repeat (first | (with_reducible first | exact HB.out | apply below_alloc | apply pw_below_drewN | apply below_drew1 | refine below_set ?_ GE708.out | refine below_set ?_ GE716.out) | exact HB.out)) hb); clear HO712; clear HO715; clear HO719; clear BK708; clear BK716; clear HB; have HO712 := n0_; have HO715 := n1_; have HO719 := n2_; have BK708 := n3_; have BK716 := n4_; have HB := n5_; clear n0_ n1_ n2_ n3_ n4_ n5_; (try clear hb); (try clear hb2); (try clear hk); (try clear hi)) | (go_at_call 26; (with_reducible refine (remouldref06_Large.calls a1 false _ A18.out).mono ?_); rintro e w' ⟨rfl, ⟨nd, rfl⟩⟩))
          go_meet
          case rel => exact ⟨_, (true), (by first | rfl | (simp; done) | (simp [*]; done)), H', ⟨by first | omega | exact Nat.le_refl _⟩, ⟨by (with_reducible repeat (first | apply Kd.R_alloc | apply Kd.R_drewN | apply Kd.R_drew)); exact Kd.R_mono HO719.out (fun _ hk => ⟨hk.1.2, hk.2⟩)⟩, ⟨by (with_reducible repeat (first | apply Kd.R_alloc | apply Kd.R_drewN | apply Kd.R_drew)); exact Kd.R_mono HO712.out (fun _ hk => ⟨hk.2, hk.1⟩)⟩, ⟨by (with_reducible repeat (first | apply Kd.R_alloc | apply Kd.R_drewN | apply Kd.R_drew)); exact Kd.R_mono HO715.out (fun _ hk => ⟨hk.2, hk.1⟩)⟩, ⟨by (with_reducible repeat (first | refine blk_drewN ?_ _ | refine blk_drew ?_ | refine blk_alloc ?_ _)); exact BK708.out⟩, ⟨by (with_reducible repeat (first | refine blk_drewN ?_ _ | refine blk_drew ?_ | refine blk_alloc ?_ _)); exact BK716.out⟩, ⟨by repeat (first | (with_reducible first | exact HB.out | apply below_alloc | apply pw_below_drewN | apply below_drew1 | refine below_set ?_ GE708.out | refine below_set ?_ GE716.out) | exact HB.out)⟩⟩
        · rw [if_neg c23] at H
          have c23b0 : decide (a2 < 0) = false := decide_eq_false c23
          clear c23
          (first | rw [c23b0] | (simp only [i64_w, i32_w]; rw [c23b0]) | skip)
          have H' := Aside0.mk H
          clear H
          have hnb27 := NB716_708.out
          have hnc27 := NB708_716.out
          have hcz28_0 : w15.cell? ⟨gb716, 0, none⟩ = some (.int .i64 t709) := (blk_cell BK716.out 0).trans rfl
          have hcz28_1 : w15.cell? ⟨gb716, 1, none⟩ = some (.slice Ao13 t710.length co13) := (blk_cell BK716.out 1).trans rfl
          have hcz28_2 : w15.cell? ⟨gb716, 2, none⟩ = some (.slice Ao14 t713.length co14) := (blk_cell BK716.out 2).trans rfl
          have hfz28_0 := blk_frozen BK716.out 0
          have hfz28_1 := blk_frozen BK716.out 1
          have hfz28_2 := blk_frozen BK716.out 2
          go_wp2_with (first | ((with_reducible refine gate_callee (f := 25) rfl ?_); refine goesL_ (some 22) rfl rfl Try.func25 (by kernel_rfl) rfl #[.agg #[.int .i64 t709, .slice Ao13 t710.length co13, .slice Ao14 t713.length co14]] rfl (by (try simp only [List.map_toArray, List.map_cons, List.map_nil]); first | done | rfl | (simp only [List.length_drop, List.length_take]; rfl)) ?_; (with_reducible refine (remouldref06_Rule.calls k t709 _ _ t710 _ _ t713 true _ ?side1 ?side2 ?side3 ?side4 A16.out).mono ?_); (case side1 => repeat (first | exact (Kd.R_reads' HO712.out).2.2 | (with_reducible refine Kd.C_alloc ?_ _) | (with_reducible refine Kd.C_drewN ?_ _) | (with_reducible refine Kd.C_drew ?_))); (case side2 => exact (Kd.R_reads' HO712.out).2.1); (case side3 => repeat (first | exact (Kd.R_reads' HO715.out).2.2 | (with_reducible refine Kd.C_alloc ?_ _) | (with_reducible refine Kd.C_drewN ?_ _) | (with_reducible refine Kd.C_drew ?_))); (case side4 => exact (Kd.R_reads' HO715.out).2.1); rintro e w29 ⟨rfl, hb⟩; refine ⟨_, rfl, ?_⟩; have n0_ := Aside0.mk (Kd.R_below (by (with_reducible repeat (first | apply Kd.R_alloc | apply Kd.R_drewN | apply Kd.R_drew)); exact HO712.out) hb); have n1_ := Aside0.mk (Kd.R_below (by (with_reducible repeat (first | apply Kd.R_alloc | apply Kd.R_drewN | apply Kd.R_drew)); exact HO715.out) hb); have n2_ := Aside0.mk (Kd.R_below (by (with_reducible repeat (first | apply Kd.R_alloc | apply Kd.R_drewN | apply Kd.R_drew)); exact HO719.out) hb); have n3_ := Aside0.mk (blk_below (g := gb708) (o := .cells #[.int .i64 a0_0, .slice A0_1 l0_1.length c0_1, .slice A0_2 l0_2.length c0_2] 24 (0, 0)) (by (with_reducible repeat (first | refine blk_drewN ?_ _ | refine blk_drew ?_ | refine blk_alloc ?_ _)); exact BK708.out) hb); have n4_ := Aside0.mk (blk_below (g := gb716) (o := .cells #[.int .i64 t709, .slice Ao13 t710.length co13, .slice Ao14 t713.length co14] 24 (0, 0)) (by (with_reducible repeat (first | refine blk_drewN ?_ _ | refine blk_drew ?_ | refine blk_alloc ?_ _)); exact BK716.out) hb); have n5_ := Aside0.mk (below_step (by repeat (first | (with_reducible first | exact HB.out | apply below_alloc | apply pw_below_drewN | apply below_drew1 | refine below_set ?_ GE708.out | refine below_set ?_ GE716.out) | exact HB.out)) hb); clear HO712; clear HO715; clear HO719; clear BK708; clear BK716; clear HB; have HO712 := n0_; have HO715 := n1_; have HO719 := n2_; have BK708 := n3_; have BK716 := n4_; have HB := n5_; clear n0_ n1_ n2_ n3_ n4_ n5_; (try clear hb); (try clear hb2); (try clear hk); (try clear hi)) | (go_at_call 26; (with_reducible refine (remouldref06_Large.calls a1 false _ A18.out).mono ?_); rintro e w' ⟨rfl, ⟨nd, rfl⟩⟩))
          go_meet
          case rel => exact ⟨_, (decide (a2 > 8)), (by first | rfl | (simp; done) | (simp [*]; done)), H', ⟨by first | omega | exact Nat.le_refl _⟩, ⟨by (with_reducible repeat (first | apply Kd.R_alloc | apply Kd.R_drewN | apply Kd.R_drew)); exact Kd.R_mono HO719.out (fun _ hk => ⟨hk.1.2, hk.2⟩)⟩, ⟨by (with_reducible repeat (first | apply Kd.R_alloc | apply Kd.R_drewN | apply Kd.R_drew)); exact Kd.R_mono HO712.out (fun _ hk => ⟨hk.2, hk.1⟩)⟩, ⟨by (with_reducible repeat (first | apply Kd.R_alloc | apply Kd.R_drewN | apply Kd.R_drew)); exact Kd.R_mono HO715.out (fun _ hk => ⟨hk.2, hk.1⟩)⟩, ⟨by (with_reducible repeat (first | refine blk_drewN ?_ _ | refine blk_drew ?_ | refine blk_alloc ?_ _)); exact BK708.out⟩, ⟨by (with_reducible repeat (first | refine blk_drewN ?_ _ | refine blk_drew ?_ | refine blk_alloc ?_ _)); exact BK716.out⟩, ⟨by repeat (first | (with_reducible first | exact HB.out | apply below_alloc | apply pw_below_drewN | apply below_drew1 | refine below_set ?_ GE708.out | refine below_set ?_ GE716.out) | exact HB.out)⟩⟩
    · replace c17 := Bool.eq_false_iff.mpr c17
      subst c17
      have H1 : (remouldlaw06_WheelSets.j0 k a1 a2 t717 t720 true t709 t710 t713) = some r := by rw [if_neg (show ¬ (false = true) by decide)] at H; exact H
      clear H
      have H := H1
      clear H1
      have H' := Aside0.mk H
      clear H
      have hnb30 := NB716_708.out
      have hnc30 := NB708_716.out
      have hcz31_0 : w15.cell? ⟨gb716, 0, none⟩ = some (.int .i64 t709) := (blk_cell BK716.out 0).trans rfl
      have hcz31_1 : w15.cell? ⟨gb716, 1, none⟩ = some (.slice Ao13 t710.length co13) := (blk_cell BK716.out 1).trans rfl
      have hcz31_2 : w15.cell? ⟨gb716, 2, none⟩ = some (.slice Ao14 t713.length co14) := (blk_cell BK716.out 2).trans rfl
      have hfz31_0 := blk_frozen BK716.out 0
      have hfz31_1 := blk_frozen BK716.out 1
      have hfz31_2 := blk_frozen BK716.out 2
      go_wp2_with (first | ((with_reducible refine gate_callee (f := 25) rfl ?_); refine goesL_ (some 22) rfl rfl Try.func25 (by kernel_rfl) rfl #[.agg #[.int .i64 t709, .slice Ao13 t710.length co13, .slice Ao14 t713.length co14]] rfl (by (try simp only [List.map_toArray, List.map_cons, List.map_nil]); first | done | rfl | (simp only [List.length_drop, List.length_take]; rfl)) ?_; (with_reducible refine (remouldref06_Rule.calls k t709 _ _ t710 _ _ t713 false _ ?side1 ?side2 ?side3 ?side4 A16.out).mono ?_); (case side1 => repeat (first | exact (Kd.R_reads' HO712.out).2.2 | (with_reducible refine Kd.C_alloc ?_ _) | (with_reducible refine Kd.C_drewN ?_ _) | (with_reducible refine Kd.C_drew ?_))); (case side2 => exact (Kd.R_reads' HO712.out).2.1); (case side3 => repeat (first | exact (Kd.R_reads' HO715.out).2.2 | (with_reducible refine Kd.C_alloc ?_ _) | (with_reducible refine Kd.C_drewN ?_ _) | (with_reducible refine Kd.C_drew ?_))); (case side4 => exact (Kd.R_reads' HO715.out).2.1); rintro e w32 ⟨rfl, hb⟩; refine ⟨_, rfl, ?_⟩; have n0_ := Aside0.mk (Kd.R_below (by (with_reducible repeat (first | apply Kd.R_alloc | apply Kd.R_drewN | apply Kd.R_drew)); exact HO712.out) hb); have n1_ := Aside0.mk (Kd.R_below (by (with_reducible repeat (first | apply Kd.R_alloc | apply Kd.R_drewN | apply Kd.R_drew)); exact HO715.out) hb); have n2_ := Aside0.mk (Kd.R_below (by (with_reducible repeat (first | apply Kd.R_alloc | apply Kd.R_drewN | apply Kd.R_drew)); exact HO719.out) hb); have n3_ := Aside0.mk (blk_below (g := gb708) (o := .cells #[.int .i64 a0_0, .slice A0_1 l0_1.length c0_1, .slice A0_2 l0_2.length c0_2] 24 (0, 0)) (by (with_reducible repeat (first | refine blk_drewN ?_ _ | refine blk_drew ?_ | refine blk_alloc ?_ _)); exact BK708.out) hb); have n4_ := Aside0.mk (blk_below (g := gb716) (o := .cells #[.int .i64 t709, .slice Ao13 t710.length co13, .slice Ao14 t713.length co14] 24 (0, 0)) (by (with_reducible repeat (first | refine blk_drewN ?_ _ | refine blk_drew ?_ | refine blk_alloc ?_ _)); exact BK716.out) hb); have n5_ := Aside0.mk (below_step (by repeat (first | (with_reducible first | exact HB.out | apply below_alloc | apply pw_below_drewN | apply below_drew1 | refine below_set ?_ GE708.out | refine below_set ?_ GE716.out) | exact HB.out)) hb); clear HO712; clear HO715; clear HO719; clear BK708; clear BK716; clear HB; have HO712 := n0_; have HO715 := n1_; have HO719 := n2_; have BK708 := n3_; have BK716 := n4_; have HB := n5_; clear n0_ n1_ n2_ n3_ n4_ n5_; (try clear hb); (try clear hb2); (try clear hk); (try clear hi)))
      go_meet
      case rel => exact ⟨_, (true), (by first | rfl | (simp; done) | (simp [*]; done)), H', ⟨by first | omega | exact Nat.le_refl _⟩, ⟨by (with_reducible repeat (first | apply Kd.R_alloc | apply Kd.R_drewN | apply Kd.R_drew)); exact Kd.R_mono HO719.out (fun _ hk => ⟨hk.1.2, hk.2⟩)⟩, ⟨by (with_reducible repeat (first | apply Kd.R_alloc | apply Kd.R_drewN | apply Kd.R_drew)); exact Kd.R_mono HO712.out (fun _ hk => ⟨hk.2, hk.1⟩)⟩, ⟨by (with_reducible repeat (first | apply Kd.R_alloc | apply Kd.R_drewN | apply Kd.R_drew)); exact Kd.R_mono HO715.out (fun _ hk => ⟨hk.2, hk.1⟩)⟩, ⟨by (with_reducible repeat (first | refine blk_drewN ?_ _ | refine blk_drew ?_ | refine blk_alloc ?_ _)); exact BK708.out⟩, ⟨by (with_reducible repeat (first | refine blk_drewN ?_ _ | refine blk_drew ?_ | refine blk_alloc ?_ _)); exact BK716.out⟩, ⟨by repeat (first | (with_reducible first | exact HB.out | apply below_alloc | apply pw_below_drewN | apply below_drew1 | refine below_set ?_ GE708.out | refine below_set ?_ GE716.out) | exact HB.out)⟩⟩
  case rest =>
    clear HC6
    try clear c1
    try clear c2
    try clear p2
    try clear c3
    try clear c5
    try clear c11
    try clear c15
    try clear c17
    try clear c19
    try clear c20
    try clear c23
    try clear c23b0
    try clear c24
    try clear c25
    try clear c27
    try clear c30
    try clear hcz12_0
    try clear hcz12_1
    try clear hcz12_2
    try clear hcz21_0
    try clear hcz21_1
    try clear hcz21_2
    try clear hcz25_0
    try clear hcz25_1
    try clear hcz25_2
    try clear hcz28_0
    try clear hcz28_1
    try clear hcz28_2
    try clear hcz31_0
    try clear hcz31_1
    try clear hcz31_2
    try clear hcz8_0
    try clear hcz8_1
    try clear hcz8_2
    try clear hfz12_0
    try clear hfz12_1
    try clear hfz12_2
    try clear hfz21_0
    try clear hfz21_1
    try clear hfz21_2
    try clear hfz25_0
    try clear hfz25_1
    try clear hfz25_2
    try clear hfz28_0
    try clear hfz28_1
    try clear hfz28_2
    try clear hfz31_0
    try clear hfz31_1
    try clear hfz31_2
    try clear hfz8_0
    try clear hfz8_1
    try clear hfz8_2
    obtain ⟨kq, x35_5, rfl, HA, HJ5, HO_8, HO_717001, HO_717002, BK708, BK716, HB⟩ := hcut
    cases kq with
    | zero => exact absurd HA.out (by simp [remouldlaw06_WheelSets.j0])
    | succ kj5 =>
      have H := HA.out
      clear HA
      simp only [remouldlaw06_WheelSets.j0] at H
      by_cases c33 : x35_5 = true
      · subst c33
        have H1 : (if (t717.length : Int) = 0 then (if t720 = 2 then ((remouldlaw06_awake.f kj5).bind fun t723 => (some t723)) else (some false)) else (some false)) = some r := by rw [if_pos rfl] at H; exact H
        clear H
        have H := H1
        clear H1
        by_cases c34 : (t717.length : Int) = 0
        · rw [if_pos c34] at H
          have c34b0 : ((t717.length : Int) == 0) = true := beq_iff_eq.mpr c34
          have c34b1 : ((t717.length : Int) != 0) = false := bne_eq_false_iff_eq.mpr c34
          clear c34
          by_cases c35 : t720 = 2
          · rw [if_pos c35] at H
            have c35b0 : (t720 == 2) = true := beq_iff_eq.mpr c35
            have c35b1 : (t720 != 2) = false := bne_eq_false_iff_eq.mpr c35
            clear c35
            replace H := Option.bind_eq_some_iff.mp H
            obtain ⟨t723, A360, H⟩ := H
            replace H : (some t723) = some r := H
            have A36 := Aside0.mk A360
            clear A360
            obtain rfl := Option.some.inj H
            obtain ⟨Ao37, co37, eo37⟩ := Kd.R_slice HO_8.out
            subst eo37
            go_wp2_with (first | (go_at_call 27; (with_reducible refine (remouldlaw06_awake.calls kj5  t723 _ A36.out).mono ?_); rintro e w38 ⟨rfl, hb⟩; have n0_ := Aside0.mk (Kd.R_below (by (with_reducible repeat (first | apply Kd.R_alloc | apply Kd.R_drewN | apply Kd.R_drew)); exact HO_8.out) hb); have n1_ := Aside0.mk (Kd.R_below (by (with_reducible repeat (first | apply Kd.R_alloc | apply Kd.R_drewN | apply Kd.R_drew)); exact HO_717001.out) hb); have n2_ := Aside0.mk (Kd.R_below (by (with_reducible repeat (first | apply Kd.R_alloc | apply Kd.R_drewN | apply Kd.R_drew)); exact HO_717002.out) hb); have n3_ := Aside0.mk (blk_below (g := gb708) (o := .cells #[.int .i64 a0_0, .slice A0_1 l0_1.length c0_1, .slice A0_2 l0_2.length c0_2] 24 (0, 0)) (by (with_reducible repeat (first | refine blk_drewN ?_ _ | refine blk_drew ?_ | refine blk_alloc ?_ _)); exact BK708.out) hb); have n4_ := Aside0.mk (blk_below (g := gb716) (o := .cells #[.int .i64 t709, .slice Ao13 t710.length co13, .slice Ao14 t713.length co14] 24 (0, 0)) (by (with_reducible repeat (first | refine blk_drewN ?_ _ | refine blk_drew ?_ | refine blk_alloc ?_ _)); exact BK716.out) hb); have n5_ := Aside0.mk (below_step (by repeat (first | (with_reducible first | exact HB.out | apply below_alloc | apply pw_below_drewN | apply below_drew1 | refine below_set ?_ GE708.out | refine below_set ?_ GE716.out) | exact HB.out)) hb); clear HO_8; clear HO_717001; clear HO_717002; clear BK708; clear BK716; clear HB; have HO_8 := n0_; have HO_717001 := n1_; have HO_717002 := n2_; have BK708 := n3_; have BK716 := n4_; have HB := n5_; clear n0_ n1_ n2_ n3_ n4_ n5_; (try clear hb); (try clear hb2); (try clear hk); (try clear hi)))
            go_ret
            exact ⟨by first | rfl | (simp [errW_none, errW_some] <;> rfl) | (simp [*, errW_none, errW_some] <;> rfl), by repeat (first | (with_reducible first | exact HB.out | apply below_alloc | apply pw_below_drewN | apply below_drew1 | refine below_set ?_ GE708.out | refine below_set ?_ GE716.out) | exact HB.out)⟩
          · rw [if_neg c35] at H
            have c35b0 : (t720 == 2) = false := beq_eq_false_iff_ne.mpr c35
            have c35b1 : (t720 != 2) = true := bne_iff_ne.mpr c35
            obtain rfl := Option.some.inj H
            obtain ⟨Ao39, co39, eo39⟩ := Kd.R_slice HO_8.out
            subst eo39
            go_wp2
            go_ret
            exact ⟨by first | rfl | (simp [errW_none, errW_some] <;> rfl) | (simp [*, errW_none, errW_some] <;> rfl), by repeat (first | (with_reducible first | exact HB.out | apply below_alloc | apply pw_below_drewN | apply below_drew1 | refine below_set ?_ GE708.out | refine below_set ?_ GE716.out) | exact HB.out)⟩
        · rw [if_neg c34] at H
          have c34b0 : ((t717.length : Int) == 0) = false := beq_eq_false_iff_ne.mpr c34
          have c34b1 : ((t717.length : Int) != 0) = true := bne_iff_ne.mpr c34
          have c34b2 : ¬ (t717 = []) := fun h_ => c34 (by rw [h_]; rfl)
          obtain rfl := Option.some.inj H
          obtain ⟨Ao40, co40, eo40⟩ := Kd.R_slice HO_8.out
          subst eo40
          go_wp2
          go_ret
          exact ⟨by first | rfl | (simp [errW_none, errW_some] <;> rfl) | (simp [*, errW_none, errW_some] <;> rfl), by repeat (first | (with_reducible first | exact HB.out | apply below_alloc | apply pw_below_drewN | apply below_drew1 | refine below_set ?_ GE708.out | refine below_set ?_ GE716.out) | exact HB.out)⟩
      · replace c33 := Bool.eq_false_iff.mpr c33
        subst c33
        have H1 : ((remouldref06_Sets.f kj5 t709 t710 t713 a1 a2).bind fun bt724 => (if bt724.2 = true then ((remouldlaw06_ints.f kj5 t717 bt724.1).bind fun t728 => (if t728 = true then (if t720 = 0 then ((remouldlaw06_awake.f kj5).bind fun t729 => (some t729)) else (some false)) else (some false))) else (if (t717.length : Int) = 0 then (if t720 = 5 then ((remouldlaw06_awake.f kj5).bind fun t730 => (some t730)) else (some false)) else (some false)))) = some r := by rw [if_neg (show ¬ (false = true) by decide)] at H; exact H
        clear H
        have H := H1
        clear H1
        replace H := Option.bind_eq_some_iff.mp H
        obtain ⟨⟨t724, t727⟩, A410, H⟩ := H
        replace H : (if t727 = true then ((remouldlaw06_ints.f kj5 t717 t724).bind fun t728 => (if t728 = true then (if t720 = 0 then ((remouldlaw06_awake.f kj5).bind fun t729 => (some t729)) else (some false)) else (some false))) else (if (t717.length : Int) = 0 then (if t720 = 5 then ((remouldlaw06_awake.f kj5).bind fun t730 => (some t730)) else (some false)) else (some false))) = some r := H
        have A41 := Aside0.mk A410
        clear A410
        by_cases c42 : t727 = true
        · subst c42
          have H1 : ((remouldlaw06_ints.f kj5 t717 t724).bind fun t728 => (if t728 = true then (if t720 = 0 then ((remouldlaw06_awake.f kj5).bind fun t729 => (some t729)) else (some false)) else (some false))) = some r := by rw [if_pos rfl] at H; exact H
          clear H
          have H := H1
          clear H1
          replace H := Option.bind_eq_some_iff.mp H
          obtain ⟨t728, A430, H⟩ := H
          replace H : (if t728 = true then (if t720 = 0 then ((remouldlaw06_awake.f kj5).bind fun t729 => (some t729)) else (some false)) else (some false)) = some r := H
          have A43 := Aside0.mk A430
          clear A430
          by_cases c44 : t728 = true
          · subst c44
            have H1 : (if t720 = 0 then ((remouldlaw06_awake.f kj5).bind fun t729 => (some t729)) else (some false)) = some r := by rw [if_pos rfl] at H; exact H
            clear H
            have H := H1
            clear H1
            by_cases c45 : t720 = 0
            · rw [if_pos c45] at H
              have c45b0 : (t720 == 0) = true := beq_iff_eq.mpr c45
              have c45b1 : (t720 != 0) = false := bne_eq_false_iff_eq.mpr c45
              clear c45
              replace H := Option.bind_eq_some_iff.mp H
              obtain ⟨t729, A460, H⟩ := H
              replace H : (some t729) = some r := H
              have A46 := Aside0.mk A460
              clear A460
              obtain rfl := Option.some.inj H
              have hnb47 := NB716_708.out
              have hnc47 := NB708_716.out
              have hcz48_0 : wc.cell? ⟨gb716, 0, none⟩ = some (.int .i64 t709) := (blk_cell BK716.out 0).trans rfl
              have hcz48_1 : wc.cell? ⟨gb716, 1, none⟩ = some (.slice Ao13 t710.length co13) := (blk_cell BK716.out 1).trans rfl
              have hcz48_2 : wc.cell? ⟨gb716, 2, none⟩ = some (.slice Ao14 t713.length co14) := (blk_cell BK716.out 2).trans rfl
              have hfz48_0 := blk_frozen BK716.out 0
              have hfz48_1 := blk_frozen BK716.out 1
              have hfz48_2 := blk_frozen BK716.out 2
              go_wp2_with (first | ((with_reducible refine gate_callee (f := 52) rfl ?_); refine goesL_ (some 50) rfl rfl Try.func52 (by kernel_rfl) rfl #[.agg #[.int .i64 t709, .slice Ao13 t710.length co13, .slice Ao14 t713.length co14], .int .i64 a1, .int .i64 a2] rfl (by (try simp only [List.map_toArray, List.map_cons, List.map_nil]); first | done | rfl | (simp only [List.length_drop, List.length_take]; rfl)) ?_; (with_reducible refine (remouldref06_Sets.calls kj5 t709 _ _ t710 _ _ t713 a1 a2 t724 true _ ?side1 ?side2 ?side3 ?side4 A41.out).mono ?_); (case side1 => repeat (first | exact (Kd.R_reads' HO_717001.out).2.2 | (with_reducible refine Kd.C_alloc ?_ _) | (with_reducible refine Kd.C_drewN ?_ _) | (with_reducible refine Kd.C_drew ?_))); (case side2 => exact (Kd.R_reads' HO_717001.out).2.1); (case side3 => repeat (first | exact (Kd.R_reads' HO_717002.out).2.2 | (with_reducible refine Kd.C_alloc ?_ _) | (with_reducible refine Kd.C_drewN ?_ _) | (with_reducible refine Kd.C_drew ?_))); (case side4 => exact (Kd.R_reads' HO_717002.out).2.1); rintro e w49 ⟨v725, rfl, ho0, hb⟩; refine ⟨_, rfl, ?_⟩; have n0_ := Aside0.mk (Kd.R_elder' (by (with_reducible repeat (first | apply Kd.R_alloc | apply Kd.R_drewN | apply Kd.R_drew)); exact HO_8.out) (Kd.R_base ho0) hb); have n1_ := Aside0.mk (Kd.R_elder' (by (with_reducible repeat (first | apply Kd.R_alloc | apply Kd.R_drewN | apply Kd.R_drew)); exact HO_717001.out) (Kd.R_base ho0) hb); have n2_ := Aside0.mk (Kd.R_elder' (by (with_reducible repeat (first | apply Kd.R_alloc | apply Kd.R_drewN | apply Kd.R_drew)); exact HO_717002.out) (Kd.R_base ho0) hb); have n3_ := Aside0.mk (Kd.R_lower (Kd.R_new' (Kd.R_new' (Kd.R_new' ho0 (Kd.R_lt (by (with_reducible repeat (first | apply Kd.R_alloc | apply Kd.R_drewN | apply Kd.R_drew)); exact HO_8.out))) (Kd.R_lt (by (with_reducible repeat (first | apply Kd.R_alloc | apply Kd.R_drewN | apply Kd.R_drew)); exact HO_717001.out))) (Kd.R_lt (by (with_reducible repeat (first | apply Kd.R_alloc | apply Kd.R_drewN | apply Kd.R_drew)); exact HO_717002.out))) (below_size (by repeat (first | (with_reducible first | exact HB.out | apply below_alloc | apply pw_below_drewN | apply below_drew1 | refine below_set ?_ GE708.out | refine below_set ?_ GE716.out) | exact HB.out)))); have n4_ := Aside0.mk (blk_below (g := gb708) (o := .cells #[.int .i64 a0_0, .slice A0_1 l0_1.length c0_1, .slice A0_2 l0_2.length c0_2] 24 (0, 0)) (by (with_reducible repeat (first | refine blk_drewN ?_ _ | refine blk_drew ?_ | refine blk_alloc ?_ _)); exact BK708.out) hb); have n5_ := Aside0.mk (blk_below (g := gb716) (o := .cells #[.int .i64 t709, .slice Ao13 t710.length co13, .slice Ao14 t713.length co14] 24 (0, 0)) (by (with_reducible repeat (first | refine blk_drewN ?_ _ | refine blk_drew ?_ | refine blk_alloc ?_ _)); exact BK716.out) hb); have n6_ := Aside0.mk (below_step (by repeat (first | (with_reducible first | exact HB.out | apply below_alloc | apply pw_below_drewN | apply below_drew1 | refine below_set ?_ GE708.out | refine below_set ?_ GE716.out) | exact HB.out)) hb); clear HO_8; clear HO_717001; clear HO_717002; clear BK708; clear BK716; clear HB; have HO_8 := n0_; have HO_717001 := n1_; have HO_717002 := n2_; have HO726 := n3_; have BK708 := n4_; have BK716 := n5_; have HB := n6_; clear n0_ n1_ n2_ n3_ n4_ n5_ n6_; (try clear hb); (try clear hb2); (try clear hk); (try clear hi); (try clear ho0); obtain ⟨Ao50, co50, eo50⟩ := Kd.R_slice HO_8.out; subst eo50; obtain ⟨Ao51, co51, eo51⟩ := Kd.R_slice HO726.out; subst eo51) | ((with_reducible refine gate_callee (f := 29) rfl ?_); refine goesL_ (some 67) rfl rfl Try.func29 (by kernel_rfl) rfl #[.slice Ao50 t717.length co50, .slice Ao51 t724.length co51] rfl (by (try simp only [List.map_toArray, List.map_cons, List.map_nil]); first | done | rfl | (simp only [List.length_drop, List.length_take]; rfl)) ?_; (with_reducible refine (remouldlaw06_ints.calls kj5 _ _ t717 _ _ t724 true _ ?side1 ?side2 ?side3 ?side4 A43.out).mono ?_); (case side1 => repeat (first | exact (Kd.R_reads' HO_8.out).2.2 | (with_reducible refine Kd.C_alloc ?_ _) | (with_reducible refine Kd.C_drewN ?_ _) | (with_reducible refine Kd.C_drew ?_))); (case side2 => exact (Kd.R_reads' HO_8.out).2.1); (case side3 => repeat (first | exact (Kd.R_reads' HO726.out).2.2 | (with_reducible refine Kd.C_alloc ?_ _) | (with_reducible refine Kd.C_drewN ?_ _) | (with_reducible refine Kd.C_drew ?_))); (case side4 => exact (Kd.R_reads' HO726.out).2.1); rintro e w' ⟨rfl, ⟨nd, rfl⟩⟩; refine ⟨_, rfl, ?_⟩) | (go_at_call 27; (with_reducible refine (remouldlaw06_awake.calls kj5  t729 _ A46.out).mono ?_); rintro e w52 ⟨rfl, hb⟩; have n0_ := Aside0.mk (Kd.R_below (by (with_reducible repeat (first | apply Kd.R_alloc | apply Kd.R_drewN | apply Kd.R_drew)); exact HO_8.out) hb); have n1_ := Aside0.mk (Kd.R_below (by (with_reducible repeat (first | apply Kd.R_alloc | apply Kd.R_drewN | apply Kd.R_drew)); exact HO_717001.out) hb); have n2_ := Aside0.mk (Kd.R_below (by (with_reducible repeat (first | apply Kd.R_alloc | apply Kd.R_drewN | apply Kd.R_drew)); exact HO_717002.out) hb); have n3_ := Aside0.mk (Kd.R_below (by (with_reducible repeat (first | apply Kd.R_alloc | apply Kd.R_drewN | apply Kd.R_drew)); exact HO726.out) hb); have n4_ := Aside0.mk (blk_below (g := gb708) (o := .cells #[.int .i64 a0_0, .slice A0_1 l0_1.length c0_1, .slice A0_2 l0_2.length c0_2] 24 (0, 0)) (by (with_reducible repeat (first | refine blk_drewN ?_ _ | refine blk_drew ?_ | refine blk_alloc ?_ _)); exact BK708.out) hb); have n5_ := Aside0.mk (blk_below (g := gb716) (o := .cells #[.int .i64 t709, .slice Ao13 t710.length co13, .slice Ao14 t713.length co14] 24 (0, 0)) (by (with_reducible repeat (first | refine blk_drewN ?_ _ | refine blk_drew ?_ | refine blk_alloc ?_ _)); exact BK716.out) hb); have n6_ := Aside0.mk (below_step (by repeat (first | (with_reducible first | exact HB.out | apply below_alloc | apply pw_below_drewN | apply below_drew1 | refine below_set ?_ GE708.out | refine below_set ?_ GE716.out) | exact HB.out)) hb); clear HO_8; clear HO_717001; clear HO_717002; clear HO726; clear BK708; clear BK716; clear HB; have HO_8 := n0_; have HO_717001 := n1_; have HO_717002 := n2_; have HO726 := n3_; have BK708 := n4_; have BK716 := n5_; have HB := n6_; clear n0_ n1_ n2_ n3_ n4_ n5_ n6_; (try clear hb); (try clear hb2); (try clear hk); (try clear hi)))
              go_ret
              exact ⟨by first | rfl | (simp [errW_none, errW_some] <;> rfl) | (simp [*, errW_none, errW_some] <;> rfl), by repeat (first | (with_reducible first | exact HB.out | apply below_alloc | apply pw_below_drewN | apply below_drew1 | refine below_set ?_ GE708.out | refine below_set ?_ GE716.out) | exact HB.out)⟩
            · rw [if_neg c45] at H
              have c45b0 : (t720 == 0) = false := beq_eq_false_iff_ne.mpr c45
              have c45b1 : (t720 != 0) = true := bne_iff_ne.mpr c45
              obtain rfl := Option.some.inj H
              have hnb53 := NB716_708.out
              have hnc53 := NB708_716.out
              have hcz54_0 : wc.cell? ⟨gb716, 0, none⟩ = some (.int .i64 t709) := (blk_cell BK716.out 0).trans rfl
              have hcz54_1 : wc.cell? ⟨gb716, 1, none⟩ = some (.slice Ao13 t710.length co13) := (blk_cell BK716.out 1).trans rfl
              have hcz54_2 : wc.cell? ⟨gb716, 2, none⟩ = some (.slice Ao14 t713.length co14) := (blk_cell BK716.out 2).trans rfl
              have hfz54_0 := blk_frozen BK716.out 0
              have hfz54_1 := blk_frozen BK716.out 1
              have hfz54_2 := blk_frozen BK716.out 2
              go_wp2_with (first | ((with_reducible refine gate_callee (f := 52) rfl ?_); refine goesL_ (some 50) rfl rfl Try.func52 (by kernel_rfl) rfl #[.agg #[.int .i64 t709, .slice Ao13 t710.length co13, .slice Ao14 t713.length co14], .int .i64 a1, .int .i64 a2] rfl (by (try simp only [List.map_toArray, List.map_cons, List.map_nil]); first | done | rfl | (simp only [List.length_drop, List.length_take]; rfl)) ?_; (with_reducible refine (remouldref06_Sets.calls kj5 t709 _ _ t710 _ _ t713 a1 a2 t724 true _ ?side1 ?side2 ?side3 ?side4 A41.out).mono ?_); (case side1 => repeat (first | exact (Kd.R_reads' HO_717001.out).2.2 | (with_reducible refine Kd.C_alloc ?_ _) | (with_reducible refine Kd.C_drewN ?_ _) | (with_reducible refine Kd.C_drew ?_))); (case side2 => exact (Kd.R_reads' HO_717001.out).2.1); (case side3 => repeat (first | exact (Kd.R_reads' HO_717002.out).2.2 | (with_reducible refine Kd.C_alloc ?_ _) | (with_reducible refine Kd.C_drewN ?_ _) | (with_reducible refine Kd.C_drew ?_))); (case side4 => exact (Kd.R_reads' HO_717002.out).2.1); rintro e w55 ⟨v725, rfl, ho0, hb⟩; refine ⟨_, rfl, ?_⟩; have n0_ := Aside0.mk (Kd.R_elder' (by (with_reducible repeat (first | apply Kd.R_alloc | apply Kd.R_drewN | apply Kd.R_drew)); exact HO_8.out) (Kd.R_base ho0) hb); have n1_ := Aside0.mk (Kd.R_elder' (by (with_reducible repeat (first | apply Kd.R_alloc | apply Kd.R_drewN | apply Kd.R_drew)); exact HO_717001.out) (Kd.R_base ho0) hb); have n2_ := Aside0.mk (Kd.R_elder' (by (with_reducible repeat (first | apply Kd.R_alloc | apply Kd.R_drewN | apply Kd.R_drew)); exact HO_717002.out) (Kd.R_base ho0) hb); have n3_ := Aside0.mk (Kd.R_lower (Kd.R_new' (Kd.R_new' (Kd.R_new' ho0 (Kd.R_lt (by (with_reducible repeat (first | apply Kd.R_alloc | apply Kd.R_drewN | apply Kd.R_drew)); exact HO_8.out))) (Kd.R_lt (by (with_reducible repeat (first | apply Kd.R_alloc | apply Kd.R_drewN | apply Kd.R_drew)); exact HO_717001.out))) (Kd.R_lt (by (with_reducible repeat (first | apply Kd.R_alloc | apply Kd.R_drewN | apply Kd.R_drew)); exact HO_717002.out))) (below_size (by repeat (first | (with_reducible first | exact HB.out | apply below_alloc | apply pw_below_drewN | apply below_drew1 | refine below_set ?_ GE708.out | refine below_set ?_ GE716.out) | exact HB.out)))); have n4_ := Aside0.mk (blk_below (g := gb708) (o := .cells #[.int .i64 a0_0, .slice A0_1 l0_1.length c0_1, .slice A0_2 l0_2.length c0_2] 24 (0, 0)) (by (with_reducible repeat (first | refine blk_drewN ?_ _ | refine blk_drew ?_ | refine blk_alloc ?_ _)); exact BK708.out) hb); have n5_ := Aside0.mk (blk_below (g := gb716) (o := .cells #[.int .i64 t709, .slice Ao13 t710.length co13, .slice Ao14 t713.length co14] 24 (0, 0)) (by (with_reducible repeat (first | refine blk_drewN ?_ _ | refine blk_drew ?_ | refine blk_alloc ?_ _)); exact BK716.out) hb); have n6_ := Aside0.mk (below_step (by repeat (first | (with_reducible first | exact HB.out | apply below_alloc | apply pw_below_drewN | apply below_drew1 | refine below_set ?_ GE708.out | refine below_set ?_ GE716.out) | exact HB.out)) hb); clear HO_8; clear HO_717001; clear HO_717002; clear BK708; clear BK716; clear HB; have HO_8 := n0_; have HO_717001 := n1_; have HO_717002 := n2_; have HO726 := n3_; have BK708 := n4_; have BK716 := n5_; have HB := n6_; clear n0_ n1_ n2_ n3_ n4_ n5_ n6_; (try clear hb); (try clear hb2); (try clear hk); (try clear hi); (try clear ho0); obtain ⟨Ao56, co56, eo56⟩ := Kd.R_slice HO_8.out; subst eo56; obtain ⟨Ao57, co57, eo57⟩ := Kd.R_slice HO726.out; subst eo57) | ((with_reducible refine gate_callee (f := 29) rfl ?_); refine goesL_ (some 67) rfl rfl Try.func29 (by kernel_rfl) rfl #[.slice Ao56 t717.length co56, .slice Ao57 t724.length co57] rfl (by (try simp only [List.map_toArray, List.map_cons, List.map_nil]); first | done | rfl | (simp only [List.length_drop, List.length_take]; rfl)) ?_; (with_reducible refine (remouldlaw06_ints.calls kj5 _ _ t717 _ _ t724 true _ ?side1 ?side2 ?side3 ?side4 A43.out).mono ?_); (case side1 => repeat (first | exact (Kd.R_reads' HO_8.out).2.2 | (with_reducible refine Kd.C_alloc ?_ _) | (with_reducible refine Kd.C_drewN ?_ _) | (with_reducible refine Kd.C_drew ?_))); (case side2 => exact (Kd.R_reads' HO_8.out).2.1); (case side3 => repeat (first | exact (Kd.R_reads' HO726.out).2.2 | (with_reducible refine Kd.C_alloc ?_ _) | (with_reducible refine Kd.C_drewN ?_ _) | (with_reducible refine Kd.C_drew ?_))); (case side4 => exact (Kd.R_reads' HO726.out).2.1); rintro e w' ⟨rfl, ⟨nd, rfl⟩⟩; refine ⟨_, rfl, ?_⟩))
              go_ret
              exact ⟨by first | rfl | (simp [errW_none, errW_some] <;> rfl) | (simp [*, errW_none, errW_some] <;> rfl), by repeat (first | (with_reducible first | exact HB.out | apply below_alloc | apply pw_below_drewN | apply below_drew1 | refine below_set ?_ GE708.out | refine below_set ?_ GE716.out) | exact HB.out)⟩
          · replace c44 := Bool.eq_false_iff.mpr c44
            subst c44
            have H1 : (some false) = some r := by rw [if_neg (show ¬ (false = true) by decide)] at H; exact H
            clear H
            have H := H1
            clear H1
            obtain rfl := Option.some.inj H
            have hnb58 := NB716_708.out
            have hnc58 := NB708_716.out
            have hcz59_0 : wc.cell? ⟨gb716, 0, none⟩ = some (.int .i64 t709) := (blk_cell BK716.out 0).trans rfl
            have hcz59_1 : wc.cell? ⟨gb716, 1, none⟩ = some (.slice Ao13 t710.length co13) := (blk_cell BK716.out 1).trans rfl
            have hcz59_2 : wc.cell? ⟨gb716, 2, none⟩ = some (.slice Ao14 t713.length co14) := (blk_cell BK716.out 2).trans rfl
            have hfz59_0 := blk_frozen BK716.out 0
            have hfz59_1 := blk_frozen BK716.out 1
            have hfz59_2 := blk_frozen BK716.out 2
            go_wp2_with (first | ((with_reducible refine gate_callee (f := 52) rfl ?_); refine goesL_ (some 50) rfl rfl Try.func52 (by kernel_rfl) rfl #[.agg #[.int .i64 t709, .slice Ao13 t710.length co13, .slice Ao14 t713.length co14], .int .i64 a1, .int .i64 a2] rfl (by (try simp only [List.map_toArray, List.map_cons, List.map_nil]); first | done | rfl | (simp only [List.length_drop, List.length_take]; rfl)) ?_; (with_reducible refine (remouldref06_Sets.calls kj5 t709 _ _ t710 _ _ t713 a1 a2 t724 true _ ?side1 ?side2 ?side3 ?side4 A41.out).mono ?_); (case side1 => repeat (first | exact (Kd.R_reads' HO_717001.out).2.2 | (with_reducible refine Kd.C_alloc ?_ _) | (with_reducible refine Kd.C_drewN ?_ _) | (with_reducible refine Kd.C_drew ?_))); (case side2 => exact (Kd.R_reads' HO_717001.out).2.1); (case side3 => repeat (first | exact (Kd.R_reads' HO_717002.out).2.2 | (with_reducible refine Kd.C_alloc ?_ _) | (with_reducible refine Kd.C_drewN ?_ _) | (with_reducible refine Kd.C_drew ?_))); (case side4 => exact (Kd.R_reads' HO_717002.out).2.1); rintro e w60 ⟨v725, rfl, ho0, hb⟩; refine ⟨_, rfl, ?_⟩; have n0_ := Aside0.mk (Kd.R_elder' (by (with_reducible repeat (first | apply Kd.R_alloc | apply Kd.R_drewN | apply Kd.R_drew)); exact HO_8.out) (Kd.R_base ho0) hb); have n1_ := Aside0.mk (Kd.R_elder' (by (with_reducible repeat (first | apply Kd.R_alloc | apply Kd.R_drewN | apply Kd.R_drew)); exact HO_717001.out) (Kd.R_base ho0) hb); have n2_ := Aside0.mk (Kd.R_elder' (by (with_reducible repeat (first | apply Kd.R_alloc | apply Kd.R_drewN | apply Kd.R_drew)); exact HO_717002.out) (Kd.R_base ho0) hb); have n3_ := Aside0.mk (Kd.R_lower (Kd.R_new' (Kd.R_new' (Kd.R_new' ho0 (Kd.R_lt (by (with_reducible repeat (first | apply Kd.R_alloc | apply Kd.R_drewN | apply Kd.R_drew)); exact HO_8.out))) (Kd.R_lt (by (with_reducible repeat (first | apply Kd.R_alloc | apply Kd.R_drewN | apply Kd.R_drew)); exact HO_717001.out))) (Kd.R_lt (by (with_reducible repeat (first | apply Kd.R_alloc | apply Kd.R_drewN | apply Kd.R_drew)); exact HO_717002.out))) (below_size (by repeat (first | (with_reducible first | exact HB.out | apply below_alloc | apply pw_below_drewN | apply below_drew1 | refine below_set ?_ GE708.out | refine below_set ?_ GE716.out) | exact HB.out)))); have n4_ := Aside0.mk (blk_below (g := gb708) (o := .cells #[.int .i64 a0_0, .slice A0_1 l0_1.length c0_1, .slice A0_2 l0_2.length c0_2] 24 (0, 0)) (by (with_reducible repeat (first | refine blk_drewN ?_ _ | refine blk_drew ?_ | refine blk_alloc ?_ _)); exact BK708.out) hb); have n5_ := Aside0.mk (blk_below (g := gb716) (o := .cells #[.int .i64 t709, .slice Ao13 t710.length co13, .slice Ao14 t713.length co14] 24 (0, 0)) (by (with_reducible repeat (first | refine blk_drewN ?_ _ | refine blk_drew ?_ | refine blk_alloc ?_ _)); exact BK716.out) hb); have n6_ := Aside0.mk (below_step (by repeat (first | (with_reducible first | exact HB.out | apply below_alloc | apply pw_below_drewN | apply below_drew1 | refine below_set ?_ GE708.out | refine below_set ?_ GE716.out) | exact HB.out)) hb); clear HO_8; clear HO_717001; clear HO_717002; clear BK708; clear BK716; clear HB; have HO_8 := n0_; have HO_717001 := n1_; have HO_717002 := n2_; have HO726 := n3_; have BK708 := n4_; have BK716 := n5_; have HB := n6_; clear n0_ n1_ n2_ n3_ n4_ n5_ n6_; (try clear hb); (try clear hb2); (try clear hk); (try clear hi); (try clear ho0); obtain ⟨Ao61, co61, eo61⟩ := Kd.R_slice HO_8.out; subst eo61; obtain ⟨Ao62, co62, eo62⟩ := Kd.R_slice HO726.out; subst eo62) | ((with_reducible refine gate_callee (f := 29) rfl ?_); refine goesL_ (some 67) rfl rfl Try.func29 (by kernel_rfl) rfl #[.slice Ao61 t717.length co61, .slice Ao62 t724.length co62] rfl (by (try simp only [List.map_toArray, List.map_cons, List.map_nil]); first | done | rfl | (simp only [List.length_drop, List.length_take]; rfl)) ?_; (with_reducible refine (remouldlaw06_ints.calls kj5 _ _ t717 _ _ t724 false _ ?side1 ?side2 ?side3 ?side4 A43.out).mono ?_); (case side1 => repeat (first | exact (Kd.R_reads' HO_8.out).2.2 | (with_reducible refine Kd.C_alloc ?_ _) | (with_reducible refine Kd.C_drewN ?_ _) | (with_reducible refine Kd.C_drew ?_))); (case side2 => exact (Kd.R_reads' HO_8.out).2.1); (case side3 => repeat (first | exact (Kd.R_reads' HO726.out).2.2 | (with_reducible refine Kd.C_alloc ?_ _) | (with_reducible refine Kd.C_drewN ?_ _) | (with_reducible refine Kd.C_drew ?_))); (case side4 => exact (Kd.R_reads' HO726.out).2.1); rintro e w' ⟨rfl, ⟨nd, rfl⟩⟩; refine ⟨_, rfl, ?_⟩))
            go_ret
            exact ⟨by first | rfl | (simp [errW_none, errW_some] <;> rfl) | (simp [*, errW_none, errW_some] <;> rfl), by repeat (first | (with_reducible first | exact HB.out | apply below_alloc | apply pw_below_drewN | apply below_drew1 | refine below_set ?_ GE708.out | refine below_set ?_ GE716.out) | exact HB.out)⟩
        · replace c42 := Bool.eq_false_iff.mpr c42
          subst c42
          have H1 : (if (t717.length : Int) = 0 then (if t720 = 5 then ((remouldlaw06_awake.f kj5).bind fun t730 => (some t730)) else (some false)) else (some false)) = some r := by rw [if_neg (show ¬ (false = true) by decide)] at H; exact H
          clear H
          have H := H1
          clear H1
          by_cases c63 : (t717.length : Int) = 0
          · rw [if_pos c63] at H
            have c63b0 : ((t717.length : Int) == 0) = true := beq_iff_eq.mpr c63
            have c63b1 : ((t717.length : Int) != 0) = false := bne_eq_false_iff_eq.mpr c63
            clear c63
            by_cases c64 : t720 = 5
            · rw [if_pos c64] at H
              have c64b0 : (t720 == 5) = true := beq_iff_eq.mpr c64
              have c64b1 : (t720 != 5) = false := bne_eq_false_iff_eq.mpr c64
              clear c64
              replace H := Option.bind_eq_some_iff.mp H
              obtain ⟨t730, A650, H⟩ := H
              replace H : (some t730) = some r := H
              have A65 := Aside0.mk A650
              clear A650
              obtain rfl := Option.some.inj H
              have hnb66 := NB716_708.out
              have hnc66 := NB708_716.out
              have hcz67_0 : wc.cell? ⟨gb716, 0, none⟩ = some (.int .i64 t709) := (blk_cell BK716.out 0).trans rfl
              have hcz67_1 : wc.cell? ⟨gb716, 1, none⟩ = some (.slice Ao13 t710.length co13) := (blk_cell BK716.out 1).trans rfl
              have hcz67_2 : wc.cell? ⟨gb716, 2, none⟩ = some (.slice Ao14 t713.length co14) := (blk_cell BK716.out 2).trans rfl
              have hfz67_0 := blk_frozen BK716.out 0
              have hfz67_1 := blk_frozen BK716.out 1
              have hfz67_2 := blk_frozen BK716.out 2
              go_wp2_with (first | ((with_reducible refine gate_callee (f := 52) rfl ?_); refine goesL_ (some 50) rfl rfl Try.func52 (by kernel_rfl) rfl #[.agg #[.int .i64 t709, .slice Ao13 t710.length co13, .slice Ao14 t713.length co14], .int .i64 a1, .int .i64 a2] rfl (by (try simp only [List.map_toArray, List.map_cons, List.map_nil]); first | done | rfl | (simp only [List.length_drop, List.length_take]; rfl)) ?_; (with_reducible refine (remouldref06_Sets.calls kj5 t709 _ _ t710 _ _ t713 a1 a2 t724 false _ ?side1 ?side2 ?side3 ?side4 A41.out).mono ?_); (case side1 => repeat (first | exact (Kd.R_reads' HO_717001.out).2.2 | (with_reducible refine Kd.C_alloc ?_ _) | (with_reducible refine Kd.C_drewN ?_ _) | (with_reducible refine Kd.C_drew ?_))); (case side2 => exact (Kd.R_reads' HO_717001.out).2.1); (case side3 => repeat (first | exact (Kd.R_reads' HO_717002.out).2.2 | (with_reducible refine Kd.C_alloc ?_ _) | (with_reducible refine Kd.C_drewN ?_ _) | (with_reducible refine Kd.C_drew ?_))); (case side4 => exact (Kd.R_reads' HO_717002.out).2.1); rintro e w68 ⟨v725, rfl, ho0, hb⟩; refine ⟨_, rfl, ?_⟩; have n0_ := Aside0.mk (Kd.R_elder' (by (with_reducible repeat (first | apply Kd.R_alloc | apply Kd.R_drewN | apply Kd.R_drew)); exact HO_8.out) (Kd.R_base ho0) hb); have n1_ := Aside0.mk (Kd.R_elder' (by (with_reducible repeat (first | apply Kd.R_alloc | apply Kd.R_drewN | apply Kd.R_drew)); exact HO_717001.out) (Kd.R_base ho0) hb); have n2_ := Aside0.mk (Kd.R_elder' (by (with_reducible repeat (first | apply Kd.R_alloc | apply Kd.R_drewN | apply Kd.R_drew)); exact HO_717002.out) (Kd.R_base ho0) hb); have n3_ := Aside0.mk (Kd.R_lower (Kd.R_new' (Kd.R_new' (Kd.R_new' ho0 (Kd.R_lt (by (with_reducible repeat (first | apply Kd.R_alloc | apply Kd.R_drewN | apply Kd.R_drew)); exact HO_8.out))) (Kd.R_lt (by (with_reducible repeat (first | apply Kd.R_alloc | apply Kd.R_drewN | apply Kd.R_drew)); exact HO_717001.out))) (Kd.R_lt (by (with_reducible repeat (first | apply Kd.R_alloc | apply Kd.R_drewN | apply Kd.R_drew)); exact HO_717002.out))) (below_size (by repeat (first | (with_reducible first | exact HB.out | apply below_alloc | apply pw_below_drewN | apply below_drew1 | refine below_set ?_ GE708.out | refine below_set ?_ GE716.out) | exact HB.out)))); have n4_ := Aside0.mk (blk_below (g := gb708) (o := .cells #[.int .i64 a0_0, .slice A0_1 l0_1.length c0_1, .slice A0_2 l0_2.length c0_2] 24 (0, 0)) (by (with_reducible repeat (first | refine blk_drewN ?_ _ | refine blk_drew ?_ | refine blk_alloc ?_ _)); exact BK708.out) hb); have n5_ := Aside0.mk (blk_below (g := gb716) (o := .cells #[.int .i64 t709, .slice Ao13 t710.length co13, .slice Ao14 t713.length co14] 24 (0, 0)) (by (with_reducible repeat (first | refine blk_drewN ?_ _ | refine blk_drew ?_ | refine blk_alloc ?_ _)); exact BK716.out) hb); have n6_ := Aside0.mk (below_step (by repeat (first | (with_reducible first | exact HB.out | apply below_alloc | apply pw_below_drewN | apply below_drew1 | refine below_set ?_ GE708.out | refine below_set ?_ GE716.out) | exact HB.out)) hb); clear HO_8; clear HO_717001; clear HO_717002; clear BK708; clear BK716; clear HB; have HO_8 := n0_; have HO_717001 := n1_; have HO_717002 := n2_; have HO726 := n3_; have BK708 := n4_; have BK716 := n5_; have HB := n6_; clear n0_ n1_ n2_ n3_ n4_ n5_ n6_; (try clear hb); (try clear hb2); (try clear hk); (try clear hi); (try clear ho0); obtain ⟨Ao69, co69, eo69⟩ := Kd.R_slice HO_8.out; subst eo69) | (go_at_call 27; (with_reducible refine (remouldlaw06_awake.calls kj5  t730 _ A65.out).mono ?_); rintro e w70 ⟨rfl, hb⟩; have n0_ := Aside0.mk (Kd.R_below (by (with_reducible repeat (first | apply Kd.R_alloc | apply Kd.R_drewN | apply Kd.R_drew)); exact HO_8.out) hb); have n1_ := Aside0.mk (Kd.R_below (by (with_reducible repeat (first | apply Kd.R_alloc | apply Kd.R_drewN | apply Kd.R_drew)); exact HO_717001.out) hb); have n2_ := Aside0.mk (Kd.R_below (by (with_reducible repeat (first | apply Kd.R_alloc | apply Kd.R_drewN | apply Kd.R_drew)); exact HO_717002.out) hb); have n3_ := Aside0.mk (Kd.R_below (by (with_reducible repeat (first | apply Kd.R_alloc | apply Kd.R_drewN | apply Kd.R_drew)); exact HO726.out) hb); have n4_ := Aside0.mk (blk_below (g := gb708) (o := .cells #[.int .i64 a0_0, .slice A0_1 l0_1.length c0_1, .slice A0_2 l0_2.length c0_2] 24 (0, 0)) (by (with_reducible repeat (first | refine blk_drewN ?_ _ | refine blk_drew ?_ | refine blk_alloc ?_ _)); exact BK708.out) hb); have n5_ := Aside0.mk (blk_below (g := gb716) (o := .cells #[.int .i64 t709, .slice Ao13 t710.length co13, .slice Ao14 t713.length co14] 24 (0, 0)) (by (with_reducible repeat (first | refine blk_drewN ?_ _ | refine blk_drew ?_ | refine blk_alloc ?_ _)); exact BK716.out) hb); have n6_ := Aside0.mk (below_step (by repeat (first | (with_reducible first | exact HB.out | apply below_alloc | apply pw_below_drewN | apply below_drew1 | refine below_set ?_ GE708.out | refine below_set ?_ GE716.out) | exact HB.out)) hb); clear HO_8; clear HO_717001; clear HO_717002; clear HO726; clear BK708; clear BK716; clear HB; have HO_8 := n0_; have HO_717001 := n1_; have HO_717002 := n2_; have HO726 := n3_; have BK708 := n4_; have BK716 := n5_; have HB := n6_; clear n0_ n1_ n2_ n3_ n4_ n5_ n6_; (try clear hb); (try clear hb2); (try clear hk); (try clear hi)))
              go_ret
              exact ⟨by first | rfl | (simp [errW_none, errW_some] <;> rfl) | (simp [*, errW_none, errW_some] <;> rfl), by repeat (first | (with_reducible first | exact HB.out | apply below_alloc | apply pw_below_drewN | apply below_drew1 | refine below_set ?_ GE708.out | refine below_set ?_ GE716.out) | exact HB.out)⟩
            · rw [if_neg c64] at H
              have c64b0 : (t720 == 5) = false := beq_eq_false_iff_ne.mpr c64
              have c64b1 : (t720 != 5) = true := bne_iff_ne.mpr c64
              obtain rfl := Option.some.inj H
              have hnb71 := NB716_708.out
              have hnc71 := NB708_716.out
              have hcz72_0 : wc.cell? ⟨gb716, 0, none⟩ = some (.int .i64 t709) := (blk_cell BK716.out 0).trans rfl
              have hcz72_1 : wc.cell? ⟨gb716, 1, none⟩ = some (.slice Ao13 t710.length co13) := (blk_cell BK716.out 1).trans rfl
              have hcz72_2 : wc.cell? ⟨gb716, 2, none⟩ = some (.slice Ao14 t713.length co14) := (blk_cell BK716.out 2).trans rfl
              have hfz72_0 := blk_frozen BK716.out 0
              have hfz72_1 := blk_frozen BK716.out 1
              have hfz72_2 := blk_frozen BK716.out 2
              go_wp2_with (first | ((with_reducible refine gate_callee (f := 52) rfl ?_); refine goesL_ (some 50) rfl rfl Try.func52 (by kernel_rfl) rfl #[.agg #[.int .i64 t709, .slice Ao13 t710.length co13, .slice Ao14 t713.length co14], .int .i64 a1, .int .i64 a2] rfl (by (try simp only [List.map_toArray, List.map_cons, List.map_nil]); first | done | rfl | (simp only [List.length_drop, List.length_take]; rfl)) ?_; (with_reducible refine (remouldref06_Sets.calls kj5 t709 _ _ t710 _ _ t713 a1 a2 t724 false _ ?side1 ?side2 ?side3 ?side4 A41.out).mono ?_); (case side1 => repeat (first | exact (Kd.R_reads' HO_717001.out).2.2 | (with_reducible refine Kd.C_alloc ?_ _) | (with_reducible refine Kd.C_drewN ?_ _) | (with_reducible refine Kd.C_drew ?_))); (case side2 => exact (Kd.R_reads' HO_717001.out).2.1); (case side3 => repeat (first | exact (Kd.R_reads' HO_717002.out).2.2 | (with_reducible refine Kd.C_alloc ?_ _) | (with_reducible refine Kd.C_drewN ?_ _) | (with_reducible refine Kd.C_drew ?_))); (case side4 => exact (Kd.R_reads' HO_717002.out).2.1); rintro e w73 ⟨v725, rfl, ho0, hb⟩; refine ⟨_, rfl, ?_⟩; have n0_ := Aside0.mk (Kd.R_elder' (by (with_reducible repeat (first | apply Kd.R_alloc | apply Kd.R_drewN | apply Kd.R_drew)); exact HO_8.out) (Kd.R_base ho0) hb); have n1_ := Aside0.mk (Kd.R_elder' (by (with_reducible repeat (first | apply Kd.R_alloc | apply Kd.R_drewN | apply Kd.R_drew)); exact HO_717001.out) (Kd.R_base ho0) hb); have n2_ := Aside0.mk (Kd.R_elder' (by (with_reducible repeat (first | apply Kd.R_alloc | apply Kd.R_drewN | apply Kd.R_drew)); exact HO_717002.out) (Kd.R_base ho0) hb); have n3_ := Aside0.mk (Kd.R_lower (Kd.R_new' (Kd.R_new' (Kd.R_new' ho0 (Kd.R_lt (by (with_reducible repeat (first | apply Kd.R_alloc | apply Kd.R_drewN | apply Kd.R_drew)); exact HO_8.out))) (Kd.R_lt (by (with_reducible repeat (first | apply Kd.R_alloc | apply Kd.R_drewN | apply Kd.R_drew)); exact HO_717001.out))) (Kd.R_lt (by (with_reducible repeat (first | apply Kd.R_alloc | apply Kd.R_drewN | apply Kd.R_drew)); exact HO_717002.out))) (below_size (by repeat (first | (with_reducible first | exact HB.out | apply below_alloc | apply pw_below_drewN | apply below_drew1 | refine below_set ?_ GE708.out | refine below_set ?_ GE716.out) | exact HB.out)))); have n4_ := Aside0.mk (blk_below (g := gb708) (o := .cells #[.int .i64 a0_0, .slice A0_1 l0_1.length c0_1, .slice A0_2 l0_2.length c0_2] 24 (0, 0)) (by (with_reducible repeat (first | refine blk_drewN ?_ _ | refine blk_drew ?_ | refine blk_alloc ?_ _)); exact BK708.out) hb); have n5_ := Aside0.mk (blk_below (g := gb716) (o := .cells #[.int .i64 t709, .slice Ao13 t710.length co13, .slice Ao14 t713.length co14] 24 (0, 0)) (by (with_reducible repeat (first | refine blk_drewN ?_ _ | refine blk_drew ?_ | refine blk_alloc ?_ _)); exact BK716.out) hb); have n6_ := Aside0.mk (below_step (by repeat (first | (with_reducible first | exact HB.out | apply below_alloc | apply pw_below_drewN | apply below_drew1 | refine below_set ?_ GE708.out | refine below_set ?_ GE716.out) | exact HB.out)) hb); clear HO_8; clear HO_717001; clear HO_717002; clear BK708; clear BK716; clear HB; have HO_8 := n0_; have HO_717001 := n1_; have HO_717002 := n2_; have HO726 := n3_; have BK708 := n4_; have BK716 := n5_; have HB := n6_; clear n0_ n1_ n2_ n3_ n4_ n5_ n6_; (try clear hb); (try clear hb2); (try clear hk); (try clear hi); (try clear ho0); obtain ⟨Ao74, co74, eo74⟩ := Kd.R_slice HO_8.out; subst eo74))
              go_ret
              exact ⟨by first | rfl | (simp [errW_none, errW_some] <;> rfl) | (simp [*, errW_none, errW_some] <;> rfl), by repeat (first | (with_reducible first | exact HB.out | apply below_alloc | apply pw_below_drewN | apply below_drew1 | refine below_set ?_ GE708.out | refine below_set ?_ GE716.out) | exact HB.out)⟩
          · rw [if_neg c63] at H
            have c63b0 : ((t717.length : Int) == 0) = false := beq_eq_false_iff_ne.mpr c63
            have c63b1 : ((t717.length : Int) != 0) = true := bne_iff_ne.mpr c63
            have c63b2 : ¬ (t717 = []) := fun h_ => c63 (by rw [h_]; rfl)
            obtain rfl := Option.some.inj H
            have hnb75 := NB716_708.out
            have hnc75 := NB708_716.out
            have hcz76_0 : wc.cell? ⟨gb716, 0, none⟩ = some (.int .i64 t709) := (blk_cell BK716.out 0).trans rfl
            have hcz76_1 : wc.cell? ⟨gb716, 1, none⟩ = some (.slice Ao13 t710.length co13) := (blk_cell BK716.out 1).trans rfl
            have hcz76_2 : wc.cell? ⟨gb716, 2, none⟩ = some (.slice Ao14 t713.length co14) := (blk_cell BK716.out 2).trans rfl
            have hfz76_0 := blk_frozen BK716.out 0
            have hfz76_1 := blk_frozen BK716.out 1
            have hfz76_2 := blk_frozen BK716.out 2
            go_wp2_with (first | ((with_reducible refine gate_callee (f := 52) rfl ?_); refine goesL_ (some 50) rfl rfl Try.func52 (by kernel_rfl) rfl #[.agg #[.int .i64 t709, .slice Ao13 t710.length co13, .slice Ao14 t713.length co14], .int .i64 a1, .int .i64 a2] rfl (by (try simp only [List.map_toArray, List.map_cons, List.map_nil]); first | done | rfl | (simp only [List.length_drop, List.length_take]; rfl)) ?_; (with_reducible refine (remouldref06_Sets.calls kj5 t709 _ _ t710 _ _ t713 a1 a2 t724 false _ ?side1 ?side2 ?side3 ?side4 A41.out).mono ?_); (case side1 => repeat (first | exact (Kd.R_reads' HO_717001.out).2.2 | (with_reducible refine Kd.C_alloc ?_ _) | (with_reducible refine Kd.C_drewN ?_ _) | (with_reducible refine Kd.C_drew ?_))); (case side2 => exact (Kd.R_reads' HO_717001.out).2.1); (case side3 => repeat (first | exact (Kd.R_reads' HO_717002.out).2.2 | (with_reducible refine Kd.C_alloc ?_ _) | (with_reducible refine Kd.C_drewN ?_ _) | (with_reducible refine Kd.C_drew ?_))); (case side4 => exact (Kd.R_reads' HO_717002.out).2.1); rintro e w77 ⟨v725, rfl, ho0, hb⟩; refine ⟨_, rfl, ?_⟩; have n0_ := Aside0.mk (Kd.R_elder' (by (with_reducible repeat (first | apply Kd.R_alloc | apply Kd.R_drewN | apply Kd.R_drew)); exact HO_8.out) (Kd.R_base ho0) hb); have n1_ := Aside0.mk (Kd.R_elder' (by (with_reducible repeat (first | apply Kd.R_alloc | apply Kd.R_drewN | apply Kd.R_drew)); exact HO_717001.out) (Kd.R_base ho0) hb); have n2_ := Aside0.mk (Kd.R_elder' (by (with_reducible repeat (first | apply Kd.R_alloc | apply Kd.R_drewN | apply Kd.R_drew)); exact HO_717002.out) (Kd.R_base ho0) hb); have n3_ := Aside0.mk (Kd.R_lower (Kd.R_new' (Kd.R_new' (Kd.R_new' ho0 (Kd.R_lt (by (with_reducible repeat (first | apply Kd.R_alloc | apply Kd.R_drewN | apply Kd.R_drew)); exact HO_8.out))) (Kd.R_lt (by (with_reducible repeat (first | apply Kd.R_alloc | apply Kd.R_drewN | apply Kd.R_drew)); exact HO_717001.out))) (Kd.R_lt (by (with_reducible repeat (first | apply Kd.R_alloc | apply Kd.R_drewN | apply Kd.R_drew)); exact HO_717002.out))) (below_size (by repeat (first | (with_reducible first | exact HB.out | apply below_alloc | apply pw_below_drewN | apply below_drew1 | refine below_set ?_ GE708.out | refine below_set ?_ GE716.out) | exact HB.out)))); have n4_ := Aside0.mk (blk_below (g := gb708) (o := .cells #[.int .i64 a0_0, .slice A0_1 l0_1.length c0_1, .slice A0_2 l0_2.length c0_2] 24 (0, 0)) (by (with_reducible repeat (first | refine blk_drewN ?_ _ | refine blk_drew ?_ | refine blk_alloc ?_ _)); exact BK708.out) hb); have n5_ := Aside0.mk (blk_below (g := gb716) (o := .cells #[.int .i64 t709, .slice Ao13 t710.length co13, .slice Ao14 t713.length co14] 24 (0, 0)) (by (with_reducible repeat (first | refine blk_drewN ?_ _ | refine blk_drew ?_ | refine blk_alloc ?_ _)); exact BK716.out) hb); have n6_ := Aside0.mk (below_step (by repeat (first | (with_reducible first | exact HB.out | apply below_alloc | apply pw_below_drewN | apply below_drew1 | refine below_set ?_ GE708.out | refine below_set ?_ GE716.out) | exact HB.out)) hb); clear HO_8; clear HO_717001; clear HO_717002; clear BK708; clear BK716; clear HB; have HO_8 := n0_; have HO_717001 := n1_; have HO_717002 := n2_; have HO726 := n3_; have BK708 := n4_; have BK716 := n5_; have HB := n6_; clear n0_ n1_ n2_ n3_ n4_ n5_ n6_; (try clear hb); (try clear hb2); (try clear hk); (try clear hi); (try clear ho0); obtain ⟨Ao78, co78, eo78⟩ := Kd.R_slice HO_8.out; subst eo78))
            go_ret
            exact ⟨by first | rfl | (simp [errW_none, errW_some] <;> rfl) | (simp [*, errW_none, errW_some] <;> rfl), by repeat (first | (with_reducible first | exact HB.out | apply below_alloc | apply pw_below_drewN | apply below_drew1 | refine below_set ?_ GE708.out | refine below_set ?_ GE716.out) | exact HB.out)⟩

end Go.Proofs.Ytkjojcepombhpaa.L
