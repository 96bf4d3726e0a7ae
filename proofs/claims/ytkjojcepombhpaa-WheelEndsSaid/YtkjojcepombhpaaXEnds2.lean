/- WheelEnds (9): the walk, by hand: for every input the law returns true. -/
import Derived.Test.YtkjojcepombhpaaXLawV
import Derived.Test.YtkjojcepombhpaaNEnds
import Derived.Test.YtkjojcepombhpaaXSend
namespace Go.Proofs.Ytkjojcepombhpaa.L
set_option linter.unusedVariables false
set_option linter.unusedSimpArgs false
open Go.RowKit Go.Shelf Go.Proofs.YtkjojcepombhpaaW.PrintWords Go.Proofs.YtkjojcepombhpaaW.PrintLast Go.Proofs.YtkjojcepombhpaaW.PrintMore

/-- A table of booleans, by its number. -/
def bl (n m : Nat) : Array Bool := ((List.range n).map fun i => m.testBit i).toArray
def ends12_T : Bool × List (List Nat × List Nat) := (true, [([], []), ([], []), ([], []), ([1, 2], [1, 2]), ([3], [3]), ([0, 4], [0, 4]), ([5], [5]), ([6], [6]), ([6], [6]), ([7, 5, 0, 1, 2, 3, 4, 5, 6, 7], [7]), ([8, 9, 0, 1, 2, 3, 4, 5, 6, 7, 8, 9], [8])])
def ends12_B : List Nat := [0, 0, 0, 6, 14, 31, 63, 127, 127, 255, 1023]
theorem ends12_tab : rtab .any (opsOf Try.f9 12) = ends12_T := by kernel_rfl
theorem ends12_bits : waitsOk ends12_T.2 ends12_B = true := by kernel_rfl
section
attribute [local irreducible] wpQuiet
set_option maxRecDepth 100000 in
set_option maxHeartbeats 8000000 in
theorem ends_cycle (a0 : Int) (A1 : Option Addr) (c1 : Nat) (l1 : List Int) (A2 : Option Addr) (c2 : Nat) (l2 : List Int) (a3 a4 : Int) (w : World) (h1 : Kd.C (Kd.int .i64) w A1 l1.length l1) (hc1 : l1.length ≤ c1) (h2 : Kd.C (Kd.int .i64) w A2 l2.length l2) (hc2 : l2.length ≤ c2)
    (kt : Nat) (m : Int) (T P : List Int) (hkt : remouldlaw06_tame.f kt a0 l1 l2 = some (m, T, P)) (hR : RuleIs m T P) (x steps : Int) (hx : -524288 ≤ x ∧ x < 524288) (hm1 : remouldlaw06_mod.f a3 1048576 = some (x + 524288)) (hs : 0 ≤ steps ∧ steps < 100) (hm2 : remouldlaw06_mod.f a4 100 = some steps)
    (cy : List Int) (j : Nat) (hcy : wheel_Cycle.f m T P x steps = some (cy, (j : Int), 0)) (l : List Int) (hor : wheel_Orbit.f m T P x steps = some (l, 0)) (hE : EndP m T P x j cy l) :
    Calls Try.prog 9 #[.int .i64 a0, .slice A1 l1.length c1, .slice A2 l2.length c2, .int .i64 a3, .int .i64 a4] w fun e w' => e = .returned (.bool true) ∧ Below w.heap.size w w' := by
  have hcl := hE.cl
  have hcm := hE.cm
  have hjm := hE.jm
  have HLL := Lib.hid hE.ll
  have hbk := hE.back
  have hhd := hE.head
  have HE := Lib.hid hE
  clear hE
  have HT := Lib.hid (remouldlaw06_tame.calls kt a0 A1 c1 l1 A2 c2 l2 m T P w h1 hc1 h2 hc2 hkt)
  have HM1 := Lib.hid (fun W => remouldlaw06_mod.calls a3 1048576 (x + 524288) W hm1)
  have HM2 := Lib.hid (fun W => remouldlaw06_mod.calls a4 100 steps W hm2)
  have HCY := Lib.hid (fun W A3 c3 A4 c4 hA hcA hB hcB => wheel_Cycle.calls m A3 c3 T A4 c4 P x steps cy (j : Int) 0 W hA hcA hB hcB hcy)
  have HOR := Lib.hid (fun W A3 c3 A4 c4 hA hcA hB hcB => wheel_Orbit.calls m A3 c3 T A4 c4 P x steps l 0 W hA hcA hB hcB hor)
  have HRU := Lib.hid hR
  have hxx : x + 524288 - 524288 = x := by omega
  clear h1 h2 hkt hm1 hm2 hcy hor hR
  go_enter Try.func9, Try.ntmps9
  go_wp2_with (first
    | (go_at_call 44; refine HT.out.mono ?_; rintro e w1 ⟨v1, v2, rfl, hr1, hr2, hb⟩; obtain ⟨A3, c3, rfl, hc3, hC3⟩ := Kd.R_reads hr1; obtain ⟨A4, c4, rfl, hc4, hC4⟩ := Kd.R_reads hr2; have HV1 := Lib.hid (LawV.new w w1 m A3 c3 T A4 c4 P hC3 hC4 hb); clear hb hr1 hr2 hC3 hC4)
    | (go_at_call 46; refine (HM1.out _).mono ?_; rintro e w2 ⟨rfl, hd⟩; have HV2 := Lib.hid (HV1.out.below hd.below); clear hd)
    | (go_at_call 46; refine (HM2.out _).mono ?_; rintro e w3 ⟨rfl, hd⟩; have HV3 := Lib.hid (HV2.out.below hd.below); clear hd; have g0 := HV3.out.rule.cell 0; have g1 := HV3.out.rule.cell 1; have g2 := HV3.out.rule.cell 2; have glt := HV3.out.rule.lt; simp only [List.getElem?_toArray, List.getElem?_cons_zero, List.getElem?_cons_succ] at g0 g1 g2)
    | (go_at_call 32; refine (HCY.out _ A3 c3 A4 c4 HV3.out.t hc3 HV3.out.p hc4).mono ?_; rintro e w4 ⟨vc, rfl, hrc, hb⟩; have HV4 := Lib.hid (HV3.out.below hb); obtain ⟨A5, c5, rfl, hc5, hC5⟩ := Kd.R_reads hrc; have HC5 := Lib.hid hC5; clear hb hrc hC5 g0 g1 g2 glt; have g0 := HV4.out.rule.cell 0; have g1 := HV4.out.rule.cell 1; have g2 := HV4.out.rule.cell 2; have glt := HV4.out.rule.lt; simp only [List.getElem?_toArray, List.getElem?_cons_zero, List.getElem?_cons_succ] at g0 g1 g2)
    | (go_at_call 24; refine (HOR.out _ A3 c3 A4 c4 HV4.out.t hc3 HV4.out.p hc4).mono ?_; rintro e w5 ⟨vl, rfl, hrl, hb⟩; have HV5 := Lib.hid (HV4.out.below hb); obtain ⟨A6, c6, rfl, hc6, hC6⟩ := Kd.R_reads hrl; have HC6 := Lib.hid hC6; have HC5b := Lib.hid (Kd.C_below HC5.out hb); clear hb hrl hC6 g0 g1 g2 glt))
  have hll := HLL.out
  obtain ⟨ad6, rfl, k1⟩ := Kd.at_int HC6.out (j : Int) (by omega) (by omega)
  obtain ⟨_, e, k2⟩ := Kd.at_int HC6.out ((l.length : Int) - 1) (by omega) (by omega)
  injection e with e
  subst e
  obtain ⟨_, e, k3⟩ := Kd.at_int HC6.out 0 (by omega) (by omega)
  injection e with e
  subst e
  obtain ⟨ad5, rfl, _⟩ := Kd.at_int HC5b.out 0 (by omega) (by omega)
  rw [show (l.length : Int) - 1 = ((j + cy.length : Nat) : Int) by omega, ← hbk] at k2
  rw [show ((j + cy.length : Nat) : Int) = (l.length : Int) - 1 by omega] at k2
  have k2' := k2
  rw [show ((l.length : Int) - 1).toNat = l.length - 1 by omega] at k2'
  rw [hhd] at k3
  have k3' := k3
  rw [show (0 : Int).toNat = 0 from rfl] at k3
  rw [show (0 : Int).toNat = 0 from rfl, Addr.add_zero'] at k3'
  simp only [Int.toNat_natCast] at k1
  have hlb : l.length ≤ 2000 := by omega
  have b1 : decide ((cy.length : Int) < 1) = false := decide_eq_false (by omega)
  have b2 : decide ((j : Int) < 0) = false := decide_eq_false (by omega)
  have b3 : ¬ (cy.length : Int) < 1 := by omega
  have b4 : ¬ (j : Int) < 0 := by omega
  have b5 : IntKind.i64.wrap ((j : Int) + (cy.length : Int)) = (j : Int) + (cy.length : Int) := by rw [i64_w]; unfold wrap64; omega
  have b6 : IntKind.i64.wrap ((j : Int) + (cy.length : Int) + 1) = (l.length : Int) := by rw [i64_w]; unfold wrap64; omega
  have b7 : (j : Int) < (l.length : Int) := by omega
  have b8 : IntKind.i64.wrap ((l.length : Int) - 1) = (l.length : Int) - 1 := by rw [i64_w]; unfold wrap64; omega
  have b9 : 0 ≤ (l.length : Int) - 1 := by omega
  have b10 : (l.length : Int) - 1 < (l.length : Int) := by omega
  have b11 : (0 : Int) < (l.length : Int) := by omega
  have b12 : (0 : Int) ≤ (j : Int) := by omega
  have b13 : j < l.length := by omega
  have b14 : l.length - 1 < l.length := by omega
  have b15 : 0 < l.length := by omega
  clear hbk hhd hll
  generalize rd l (j : Int) = y at k1 k2 k2'
  go_quiet (fail)
  clear k1 k2 k2' k3 k3' b1 b2 b3 b4 b5 b6 b7 b8 b9 b10 b11 b12 b13 b14 b15
  go_wp2
  go_loopw [17] (fun i wr => ∃ k : Nat, k ≤ cy.length ∧ i = .int .i64 k ∧ LawV w w1.heap.size m A3 c3 T A4 c4 P wr ∧ Kd.C (Kd.int .i64) wr (some ad5) cy.length cy ∧ Kd.C (Kd.int .i64) wr (some ad6) l.length l) (fun i _ => cy.length - (intOf i).toNat)
  case atStart => exact ⟨0, Nat.zero_le _, rfl, HV5.out.below (pw_below_drewN (Below.refl _ _) _), Kd.C_drewN HC5b.out _, Kd.C_drewN HC6.out _⟩
  case round =>
    obtain ⟨k, hk, rfl, hV, hC5, hC6⟩ := hrel
    by_cases hlt : k < cy.length
    · obtain ⟨_, e, k4⟩ := Kd.at_int hC5 (k : Int) (by omega) (by omega)
      injection e with e
      subst e
      obtain ⟨r, hr⟩ : ∃ r, (k + 1) % cy.length = r := ⟨_, rfl⟩
      have hrl : r < cy.length := by rw [← hr]; exact Nat.mod_lt _ hcl
      obtain ⟨_, e, k5⟩ := Kd.at_int hC5 (r : Int) (by omega) (by omega)
      injection e with e
      subst e
      obtain ⟨_, e, k6⟩ := Kd.at_int hC5 0 (by omega) (by omega)
      injection e with e
      subst e
      simp only [Int.toNat_natCast] at k4 k5
      rw [show (0 : Int).toNat = 0 from rfl] at k6
      have k7 := k6
      rw [Addr.add_zero'] at k7
      have hsm := HE.out.small k hlt
      have hsm2 := HE.out.small r hrl
      have hse := HE.out.sent k hlt
      have hmn := HE.out.min k hlt
      have hne := HE.out.ne k
      rw [hr] at hse
      have htm : Int.tmod ((k : Int) + 1) (cy.length : Int) = (r : Int) := by
        rw [← hr, Int.tmod_eq_emod_of_nonneg (by omega)]
        rfl
      generalize rd cy (k : Int) = y1 at *
      generalize rd cy (r : Int) = y2 at *
      generalize rd cy 0 = y0 at *
      have hsend : wheel_Send.f m T P y1 = some (y2, 0) := by
        unfold wheel_Send.f
        rw [ruleB_of HRU.out, hsm, hse, hsm2]
        rfl
      have HSD := Lib.hid (wheel_Send.calls m A3 c3 T A4 c4 P y1 y2 0 wr.drew (Kd.C_drew hV.t) hc3 (Kd.C_drew hV.p) hc4 hsend)
      have HV := Lib.hid hV
      have HC5 := Lib.hid hC5
      have HC6 := Lib.hid hC6
      have g0 := HV.out.rule.cell 0
      have g1 := HV.out.rule.cell 1
      have g2 := HV.out.rule.cell 2
      have glt := HV.out.rule.lt
      simp only [List.getElem?_toArray, List.getElem?_cons_zero, List.getElem?_cons_succ] at g0 g1 g2
      have b1 : IntKind.i64.wrap ((k : Int) + 1) = (k : Int) + 1 := by rw [i64_w]; unfold wrap64; omega
      have b2 : ¬ (cy.length : Int) = 0 := by omega
      have b2n : ¬ cy = [] := by intro e; rw [e] at hcl; simp at hcl
      have b2c : ¬ cy.length = 0 := by omega
      have b3 : ¬ y1 < y0 := by omega
      have b4 : decide (y1 < y0) = false := decide_eq_false b3
      have b5 : IntKind.i64.wrap (r : Int) = (r : Int) := by rw [i64_w]; unfold wrap64; omega
      clear hV hC5 hC6 hsend hse hsm hsm2 hmn hr
      go_wp2
      have HVd := Lib.hid (HV.out.below (below_drew1 (Below.refl _ _)))
      have HC5d := Lib.hid (Kd.C_drew HC5.out)
      have HC6d := Lib.hid (Kd.C_drew HC6.out)
      have k5d : wr.drew.cell? (ad5.add r) = some (.int .i64 y2) := k5
      have k6d : wr.drew.cell? (ad5.add 0) = some (.int .i64 y0) := k6
      have k7d : wr.drew.cell? ad5 = some (.int .i64 y0) := k7
      refine start_ (n := 11) (S := fun w' => w'.cell? ⟨w1.heap.size, 0, none⟩ = some (.int .i64 m) ∧ w'.cell? ⟨w1.heap.size, 1, none⟩ = some (.slice A3 T.length c3) ∧ w'.cell? ⟨w1.heap.size, 2, none⟩ = some (.slice A4 P.length c4) ∧ w'.cell? (ad5.add k) = some (.int .i64 y1)) (ds := []) (bl 11 0) (by kernel_rfl) rfl rfl ⟨g0, g1, g2, k4⟩ (fun hHeld => ?_)
      refine with_tabW ends12_tab ends12_bits (fun HT_ HW_ => ?_)
      generalize wr.drew = wd at HVd HC5d HC6d HSD k5d k6d k7d hHeld ⊢
      refine pure_ (i := 1) (N := some 122) (v := ?_) (a' := ?_) (bl 11 2) rfl rfl (any_of HT_.out (by kernel_rfl)) (fun _ _ _ h => h) (Or.inl ⟨by rfl, ?_⟩) ?_ ?_
      rotate_left
      · intro w'
        go_simp
        with_reducible rfl
      rotate_left
      · simp only [Act.put, List.setIfInBounds_toArray, List.set_cons_zero, List.set_cons_succ, i64_w, i32_w]
        rfl
      refine pure_ (i := 2) (N := some 123) (v := ?_) (a' := ?_) (bl 11 6) rfl rfl (any_of HT_.out (by kernel_rfl)) (fun _ _ _ h => h) (Or.inl ⟨by rfl, ?_⟩) ?_ ?_
      rotate_left
      · intro w'
        go_simp
        with_reducible rfl
      rotate_left
      · simp only [Act.put, List.setIfInBounds_toArray, List.set_cons_zero, List.set_cons_succ, i64_w, i32_w]
        rfl
      refine pure_ (i := 3) (N := some 124) (v := ?_) (a' := ?_) (bl 11 14) rfl rfl (any_of HT_.out (by kernel_rfl)) (fun _ _ _ h => h) (Or.inl ⟨by rfl, ?_⟩) ?_ ?_
      rotate_left
      · intro w'
        go_simp
        with_reducible rfl
      rotate_left
      · simp only [Act.put, List.setIfInBounds_toArray, List.set_cons_zero, List.set_cons_succ, i64_w, i32_w]
        rfl
      refine take_ (i := 0) (N := some 121) (v := ?_) (a' := ?_) (bl 11 15) rfl rfl (take_ofW HT_.out HW_.out (by kernel_rfl)) (fun _ _ _ h => h) (Or.inl ⟨by rfl, ?_⟩) hHeld ?_ ?_
      rotate_left
      · rintro w' ⟨s0, s1, s2, s3⟩
        go_simp
        with_reducible rfl
      rotate_left
      · simp only [Act.put, List.setIfInBounds_toArray, List.set_cons_zero, List.set_cons_succ, i64_w, i32_w]
        rfl
      refine take_ (i := 4) (N := some 125) (v := ?_) (a' := ?_) (bl 11 31) rfl rfl (take_ofW HT_.out HW_.out (by kernel_rfl)) (fun _ _ _ h => h) (Or.inl ⟨by rfl, ?_⟩) hHeld ?_ ?_
      rotate_left
      · rintro w' ⟨s0, s1, s2, s3⟩
        go_simp
        with_reducible rfl
      rotate_left
      · simp only [Act.put, List.setIfInBounds_toArray, List.set_cons_zero, List.set_cons_succ, i64_w, i32_w]
        rfl
      refine one_ (i := 5) (N := some 126) (bl 11 63) rfl rfl (one_of HT_.out (by kernel_rfl)) (by decide) (fun K hK => ?_)
      refine goes_ Try.func47 (by kernel_rfl) rfl #[.agg #[.int .i64 m, .slice A3 T.length c3, .slice A4 P.length c4], .int .i64 y1] (by rfl) rfl rfl (by (try simp only [List.map_toArray, List.map_cons, List.map_nil]); first | done | rfl | (simp only [List.length_drop, List.length_take]; rfl)) ?_
      refine (HSD.out).mono ?_
      rintro e w6 ⟨rfl, hb⟩
      have HV6 := Lib.hid (HVd.out.below hb)
      have HC56 := Lib.hid (Kd.C_below HC5d.out hb)
      have HC66 := Lib.hid (Kd.C_below HC6d.out hb)
      have k5e := pw_cell_below hb k5d
      have k6e := pw_cell_below hb k6d
      have k7e := pw_cell_below hb k7d
      have k4e := pw_cell_below hb hHeld.2.2.2
      clear hb g0 g1 g2 glt k4 k5 k6 k7 k5d k6d k7d
      refine ⟨_, rfl, ?_⟩
      refine hK.out _ _ ⟨HV6.out.rule.cell 0, HV6.out.rule.cell 1, HV6.out.rule.cell 2, k4e⟩ (fun hHeld => ?_)
      clear hK K
      refine norm_ (a' := ?_) ?_ ?_
      rotate_left
      · show Act.put _ (some 126) _ = _
        simp only [Act.put, List.setIfInBounds_toArray, List.set_cons_zero, List.set_cons_succ, i64_w, i32_w]
        rfl
      refine pure_ (i := 6) (N := some 120) (v := ?_) (a' := ?_) (bl 11 127) rfl rfl (any_of HT_.out (by kernel_rfl)) (fun _ _ _ h => h) (Or.inl ⟨by rfl, ?_⟩) ?_ ?_
      rotate_left
      · intro w'
        go_simp
        with_reducible rfl
      rotate_left
      · simp only [Act.put, List.setIfInBounds_toArray, List.set_cons_zero, List.set_cons_succ, i64_w, i32_w]
        rfl
      refine pure_ (i := 7) (N := some 127) (v := ?_) (a' := ?_) (bl 11 255) rfl rfl (any_of HT_.out (by kernel_rfl)) (fun _ _ _ h => h) (Or.inl ⟨by rfl, ?_⟩) ?_ ?_
      rotate_left
      · intro w'
        go_simp
        with_reducible rfl
      rotate_left
      · simp only [Act.put, List.setIfInBounds_toArray, List.set_cons_zero, List.set_cons_succ, i64_w, i32_w]
        rfl
      refine pure_ (i := 8) (N := some 128) (v := ?_) (a' := ?_) (bl 11 511) rfl rfl (any_of HT_.out (by kernel_rfl)) (fun _ _ _ h => h) (Or.inl ⟨by rfl, ?_⟩) ?_ ?_
      rotate_left
      · intro w'
        go_simp
        with_reducible rfl
      rotate_left
      · simp only [Act.put, List.setIfInBounds_toArray, List.set_cons_zero, List.set_cons_succ, i64_w, i32_w]
        rfl
      refine pure_ (i := 9) (N := some 18) (v := ?_) (a' := ?_) (bl 11 1023) rfl rfl (any_of HT_.out (by kernel_rfl)) (fun _ _ _ h => h) (Or.inl ⟨by rfl, ?_⟩) ?_ ?_
      rotate_left
      · intro w'
        go_simp
        with_reducible rfl
      rotate_left
      · simp only [Act.put, List.setIfInBounds_toArray, List.set_cons_zero, List.set_cons_succ, i64_w, i32_w]
        rfl
      refine pure_ (i := 10) (N := some 19) (v := ?_) (a' := ?_) (bl 11 2047) rfl rfl (any_of HT_.out (by kernel_rfl)) (fun _ _ _ h => h) (Or.inl ⟨by rfl, ?_⟩) ?_ ?_
      rotate_left
      · intro w'
        go_simp
        with_reducible rfl
      rotate_left
      · simp only [Act.put, List.setIfInBounds_toArray, List.set_cons_zero, List.set_cons_succ, i64_w, i32_w]
        rfl
      refine done_ (done_of HT_.out (by kernel_rfl)) ?_
      clear hHeld HT_ HW_
      go_wp2
      by_cases hk0 : k = 0
      · have b7 : decide ((k : Int) > 0) = false := decide_eq_false (by omega)
        have b10 : decide (0 < k) = false := decide_eq_false (by omega)
        have b11 : ¬ 0 < k := by omega
        clear hk0
        go_quiet (fail)
        go_wp2
        exact ⟨⟨k + 1, by omega, by go_num, HV6.out.below (pw_below_drewN (Below.refl _ _) _), Kd.C_drewN HC56.out _, Kd.C_drewN HC66.out _⟩, by simp [intOf]; omega⟩
      · have b6 : (0 : Int) < (k : Int) := by omega
        have b7 : decide ((k : Int) > 0) = true := decide_eq_true (by omega)
        have b10 : decide (0 < k) = true := decide_eq_true (by omega)
        have b8 : ¬ y1 = y0 := hne (by omega) hlt
        have b9 : (y1 == y0) = false := by simpa using b8
        go_quiet (fail)
        go_wp2
        exact ⟨⟨k + 1, by omega, by go_num, HV6.out.below (pw_below_drewN (Below.refl _ _) _), Kd.C_drewN HC56.out _, Kd.C_drewN HC66.out _⟩, by simp [intOf]; omega⟩
    · obtain rfl : k = cy.length := by omega
      have HV := Lib.hid hV
      have HC5 := Lib.hid hC5
      have HC6 := Lib.hid hC6
      clear hV hC5 hC6
      go_wp2
      go_loopw [20] (fun i wq => ∃ q : Nat, q ≤ l.length ∧ i = .int .i64 q ∧ LawV w w1.heap.size m A3 c3 T A4 c4 P wq ∧ Kd.C (Kd.int .i64) wq (some ad5) cy.length cy ∧ Kd.C (Kd.int .i64) wq (some ad6) l.length l) (fun i _ => l.length - (intOf i).toNat)
      case atStart => exact ⟨0, Nat.zero_le _, rfl, HV.out, HC5.out, HC6.out⟩
      case round =>
        obtain ⟨q, hq, rfl, hV, hC5, hC6⟩ := hrel
        by_cases hlt : q < l.length
        · have hmem := HE.out.mem q hlt
          obtain ⟨_, e, k1⟩ := Kd.at_int hC6 (q : Int) (by omega) (by omega)
          injection e with e
          subst e
          simp only [Int.toNat_natCast] at k1
          generalize rd l (q : Int) = x1 at k1 hmem
          have HV1 := Lib.hid hV
          have HC51 := Lib.hid hC5
          have HC61 := Lib.hid hC6
          have HMEM := Lib.hid hmem
          have HK1 := Lib.hid k1
          clear hV hC5 hC6 hmem k1
          go_wp2
          go_loopw [21, 22] (fun b i2 wp => ∃ q2 : Nat, q2 ≤ cy.length ∧ i2 = .int .i64 q2 ∧ b = .bool (decide (x1 ∈ cy.take q2)) ∧ LawV w w1.heap.size m A3 c3 T A4 c4 P wp ∧ Kd.C (Kd.int .i64) wp (some ad5) cy.length cy ∧ Kd.C (Kd.int .i64) wp (some ad6) l.length l ∧ wp.cell? (ad6.add q) = some (.int .i64 x1)) (fun _ i2 _ => cy.length - (intOf i2).toNat)
          case atStart => exact ⟨0, Nat.zero_le _, rfl, by simp, HV1.out, HC51.out, HC61.out, HK1.out⟩
          case round =>
            obtain ⟨q2, hq2, rfl, rfl, hV, hC5, hC6, k3⟩ := hrel
            have HV2 := Lib.hid hV
            have HC52 := Lib.hid hC5
            have HC62 := Lib.hid hC6
            by_cases hlt2 : q2 < cy.length
            · obtain ⟨_, e, k4⟩ := Kd.at_int hC5 (q2 : Int) (by omega) (by omega)
              injection e with e
              subst e
              have hst : decide (x1 ∈ cy.take (q2 + 1)) = (decide (x1 ∈ cy.take q2) || decide (rd cy (q2 : Int) = x1)) := by
                rw [List.take_succ_eq_append_getElem hlt2, show rd cy (q2 : Int) = cy[q2] by simp [rd, hlt2], ← Bool.decide_or]
                exact decide_eq_decide.2 (by rw [List.mem_append, List.mem_singleton]; exact or_congr Iff.rfl eq_comm)
              simp only [Int.toNat_natCast] at k4
              generalize rd cy (q2 : Int) = z at k4 hst
              generalize decide (x1 ∈ cy.take q2) = bb at hst ⊢
              have HST := Lib.hid hst
              have b1 : (q : Int) < (l.length : Int) := by omega
              have b2 : (q2 : Int) < (cy.length : Int) := by omega
              clear hV hC5 hC6 hst
              cases bb
              · by_cases hzx : z = x1
                · have hzb : (z == x1) = true := by simpa using hzx
                  go_wp2
                  go_quiet (fail)
                  go_wp2
                  exact ⟨⟨q2 + 1, by omega, by go_num, by rw [HST.out]; simp [hzx], HV2.out.below (pw_below_drewN (Below.refl _ _) _), Kd.C_drewN HC52.out _, Kd.C_drewN HC62.out _, k3⟩, by simp [intOf]; omega⟩
                · have hzb : (z == x1) = false := by simpa using hzx
                  go_wp2
                  go_quiet (fail)
                  go_wp2
                  exact ⟨⟨q2 + 1, by omega, by go_num, by rw [HST.out]; simp [hzx], HV2.out.below (pw_below_drewN (Below.refl _ _) _), Kd.C_drewN HC52.out _, Kd.C_drewN HC62.out _, k3⟩, by simp [intOf]; omega⟩
              · go_wp2
                go_quiet (fail)
                go_wp2
                exact ⟨⟨q2 + 1, by omega, by go_num, by rw [HST.out]; simp, HV2.out.below (pw_below_drewN (Below.refl _ _) _), Kd.C_drewN HC52.out _, Kd.C_drewN HC62.out _, k3⟩, by simp [intOf]; omega⟩
            · obtain rfl : q2 = cy.length := by omega
              rw [List.take_length]
              have hjm2 := HMEM.out
              clear hV hC5 hC6
              by_cases hjq : j ≤ q
              · rw [decide_eq_true (hjm2.2 hjq)]
                have b1 : decide ((q : Int) ≥ (j : Int)) = true := decide_eq_true (by omega)
                have b2 : decide (j ≤ q) = true := decide_eq_true hjq
                have b3 : (j : Int) ≤ (q : Int) := by omega
                clear hjm2
                go_wp2
                exact ⟨⟨q + 1, by omega, by go_num, HV2.out, HC52.out, HC62.out⟩, by simp [intOf]; omega⟩
              · rw [decide_eq_false (fun h => hjq (hjm2.1 h))]
                have b1 : decide ((q : Int) ≥ (j : Int)) = false := decide_eq_false (by omega)
                have b2 : decide (j ≤ q) = false := decide_eq_false hjq
                have b3 : ¬ (j : Int) ≤ (q : Int) := by omega
                clear hjm2
                go_wp2
                exact ⟨⟨q + 1, by omega, by go_num, HV2.out, HC52.out, HC62.out⟩, by simp [intOf]; omega⟩
        · obtain rfl : q = l.length := by omega
          have HV1 := Lib.hid hV
          clear hV hC5 hC6
          go_wp2_with (go_at_call 27; refine (remouldlaw06_awake.calls 0 true _ rfl).mono ?_; rintro e w6 ⟨rfl, hb⟩; have HV6 := Lib.hid (HV1.out.below hb); clear hb)
          go_ret
          exact ⟨rfl, HV6.out.bel⟩
end
end Go.Proofs.Ytkjojcepombhpaa.L
