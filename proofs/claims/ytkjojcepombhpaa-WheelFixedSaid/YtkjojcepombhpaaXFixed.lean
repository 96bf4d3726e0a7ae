/- WheelFixed (12): the walk, by hand: for every input the law returns true. -/
import Derived.Test.YtkjojcepombhpaaXLawV
import Derived.Test.YtkjojcepombhpaaNFixed
import Derived.Test.YtkjojcepombhpaaL1
namespace Go.Proofs.Ytkjojcepombhpaa.L
set_option linter.unusedVariables false
set_option linter.unusedSimpArgs false
open Go.RowKit Go.Shelf Go.Proofs.YtkjojcepombhpaaW.PrintWords Go.Proofs.YtkjojcepombhpaaW.PrintLast Go.Proofs.YtkjojcepombhpaaW.PrintMore
attribute [local go_sem high] eqA49

/-- A table of booleans, by its number. -/
def bl (n m : Nat) : Array Bool := ((List.range n).map fun i => m.testBit i).toArray
def fix9_T : Bool × List (List Nat × List Nat) := (true, [([], []), ([], []), ([], []), ([1, 2], [1, 2]), ([3], [3]), ([], []), ([0, 4, 5], [0, 4, 5]), ([6], [6]), ([7], [7]), ([7], [7]), ([8, 6, 0, 1, 2, 3, 4, 5, 6, 7, 8], [8]), ([9, 10, 0, 1, 2, 3, 4, 5, 6, 7, 8, 9, 10], [9])])
def fix9_B : List Nat := [0, 0, 0, 6, 14, 0, 63, 127, 255, 255, 511, 2047]
theorem fix9_tab : rtab .any (opsOf Try.f12 9) = fix9_T := by kernel_rfl
theorem fix9_bits : waitsOk fix9_T.2 fix9_B = true := by kernel_rfl
section
attribute [local irreducible] wpQuiet
set_option maxRecDepth 100000 in
set_option maxHeartbeats 16000000 in
theorem fixed_walk (a0 : Int) (A1 : Option Addr) (c1 : Nat) (l1 : List Int) (A2 : Option Addr) (c2 : Nat) (l2 : List Int) (a3 : Int) (w : World) (h1 : Kd.C (Kd.int .i64) w A1 l1.length l1) (hc1 : l1.length ≤ c1) (h2 : Kd.C (Kd.int .i64) w A2 l2.length l2) (hc2 : l2.length ≤ c2)
    (kt : Nat) (m : Int) (T P : List Int) (hkt : remouldlaw06_tame.f kt a0 l1 l2 = some (m, T, P)) (kI : Int) (hkI : 1 ≤ kI ∧ kI ≤ 5) (hm1 : remouldlaw06_mod.f a3 5 = some (kI - 1))
    (l : List Int) (hwh : wheel_Whole.f m T P kI = some (l, 0)) (hll : l.length ≤ 7776) (hsrt : ∀ i, 0 < i → i < l.length → rd l ((i : Int) - 1) < rd l (i : Int)) (hF : ∀ i, i < l.length → ∃ c s a b d, FixP m T P kI (rd l (i : Int)) c s a b d) :
    Calls Try.prog 12 #[.int .i64 a0, .slice A1 l1.length c1, .slice A2 l2.length c2, .int .i64 a3] w fun e w' => e = .returned (.bool true) ∧ Below w.heap.size w w' := by
  have hu49 := Try.underlying49
  have HT := Lib.hid (remouldlaw06_tame.calls kt a0 A1 c1 l1 A2 c2 l2 m T P w h1 hc1 h2 hc2 hkt)
  have HM1 := Lib.hid (fun W => remouldlaw06_mod.calls a3 5 (kI - 1) W hm1)
  have HWH := Lib.hid (fun W A3 c3 A4 c4 hA hcA hB hcB => wheel_Whole.calls m A3 c3 T A4 c4 P kI l 0 W hA hcA hB hcB hwh)
  have HF := Lib.hid hF
  have HSRT := Lib.hid hsrt
  have hxx : 1 + (kI - 1) = kI := by omega
  clear h1 h2 hkt hm1 hwh hF hsrt
  go_enter Try.func12, Try.ntmps12
  go_wp2_with (first
    | (go_at_call 44; refine HT.out.mono ?_; rintro e w1 ⟨v1, v2, rfl, hr1, hr2, hb⟩; obtain ⟨A3, c3, rfl, hc3, hC3⟩ := Kd.R_reads hr1; obtain ⟨A4, c4, rfl, hc4, hC4⟩ := Kd.R_reads hr2; have HV1 := Lib.hid (LawV.new w w1 m A3 c3 T A4 c4 P hC3 hC4 hb); clear hb hr1 hr2 hC3 hC4)
    | (go_at_call 46; refine (HM1.out _).mono ?_; rintro e w2 ⟨rfl, hd⟩; have HV2 := Lib.hid (HV1.out.below hd.below); clear hd; have g0 := HV2.out.rule.cell 0; have g1 := HV2.out.rule.cell 1; have g2 := HV2.out.rule.cell 2; have glt := HV2.out.rule.lt; simp only [List.getElem?_toArray, List.getElem?_cons_zero, List.getElem?_cons_succ] at g0 g1 g2)
    | (go_at_call 30; refine (HWH.out _ A3 c3 A4 c4 HV2.out.t hc3 HV2.out.p hc4).mono ?_; rintro e w4 ⟨vc, rfl, hrc, hb⟩; have HV4 := Lib.hid (HV2.out.below hb); obtain ⟨A5, c5, rfl, hc5, hC5⟩ := Kd.R_reads hrc; have HC5 := Lib.hid hC5; clear hb hrc hC5 g0 g1 g2 glt))
  go_loopw [12] (fun i wr => ∃ k : Nat, k ≤ l.length ∧ i = .int .i64 k ∧ LawV w w1.heap.size m A3 c3 T A4 c4 P wr ∧ Kd.C (Kd.int .i64) wr A5 l.length l) (fun i _ => l.length - (intOf i).toNat)
  case atStart => exact ⟨0, Nat.zero_le _, rfl, HV4.out, HC5.out⟩
  case round =>
    obtain ⟨k, hk, rfl, hV, hC5⟩ := hrel
    by_cases hlt : k < l.length
    · obtain ⟨ad5, rfl, k4⟩ := Kd.at_int hC5 (k : Int) (by omega) (by omega)
      simp only [Int.toNat_natCast] at k4
      have hs := HSRT.out k
      have k3 : ∀ h0 : 0 < k, wr.cell? (ad5.add (k - 1)) = some (.int .i64 (rd l ((k : Int) - 1))) := fun h0 => by
        obtain ⟨_, e, k3⟩ := Kd.at_int hC5 ((k : Int) - 1) (by omega) (by omega)
        injection e with e
        subst e
        rw [show ((k : Int) - 1).toNat = k - 1 by omega] at k3
        exact k3
      obtain ⟨c, s, a, b, d, hf⟩ := HF.out k hlt
      generalize rd l (k : Int) = y1 at *
      generalize rd l ((k : Int) - 1) = y0 at *
      have hcl := hf.cl
      have hys := hf.ys
      have hd1 := hf.d1
      have hs0 := hf.s0
      have hmd := hf.md
      have HCO := Lib.hid (fun W hA hB => wheel_Course.calls m A3 c3 T A4 c4 P y1 kI c 0 W hA hc3 hB hc4 hf.co)
      have HFX := Lib.hid (fun W A c' hA hB hC hc => wheel_Fixed.calls m A3 c3 T A4 c4 P A c' c y1 1 0 W hA hc3 hB hc4 hC hc hf.fx)
      have HST := Lib.hid (fun W A c' hA hB hC hc => wheel_Start.calls m A3 c3 T A4 c4 P A c' c s 0 W hA hc3 hB hc4 hC hc hf.st)
      have HFO := Lib.hid (fun W A c' hA hB hC hc => wheel_Form.calls m A3 c3 T A4 c4 P A c' c a b d 0 W hA hc3 hB hc4 hC hc hf.fo)
      have HVd := Lib.hid (hV.below (below_drew1 (Below.refl _ _)))
      have HC5d := Lib.hid (Kd.C_drew hC5)
      have HK3 := Lib.hid (show ∀ h0 : 0 < k, wr.drew.cell? (ad5.add (k - 1)) = some (.int .i64 y0) from k3)
      have HSS := Lib.hid hs
      have g0 := hV.rule.cell 0
      have g1 := hV.rule.cell 1
      have g2 := hV.rule.cell 2
      simp only [List.getElem?_toArray, List.getElem?_cons_zero, List.getElem?_cons_succ] at g0 g1 g2
      clear hV hC5 hf k3 hs
      go_wp2
      refine start_ (n := 12) (S := fun w' => w'.cell? ⟨w1.heap.size, 0, none⟩ = some (.int .i64 m) ∧ w'.cell? ⟨w1.heap.size, 1, none⟩ = some (.slice A3 T.length c3) ∧ w'.cell? ⟨w1.heap.size, 2, none⟩ = some (.slice A4 P.length c4) ∧ w'.cell? (ad5.add k) = some (.int .i64 y1)) (ds := []) (bl 12 0) (by kernel_rfl) rfl rfl ⟨g0, g1, g2, k4⟩ (fun hHeld => ?_)
      refine with_tabW fix9_tab fix9_bits (fun HT_ HW_ => ?_)
      generalize wr.drew = wd at HVd HC5d HK3 hHeld ⊢
      refine pure_ (i := 1) (N := some 46) (v := ?_) (a' := ?_) (bl 12 2) rfl rfl (any_of HT_.out (by kernel_rfl)) (fun _ _ _ h => h) (Or.inl ⟨by rfl, ?_⟩) ?_ ?_
      rotate_left
      · intro w'
        go_simp
        with_reducible rfl
      rotate_left
      · simp only [Act.put, List.setIfInBounds_toArray, List.set_cons_zero, List.set_cons_succ, i64_w, i32_w]
        rfl
      refine pure_ (i := 2) (N := some 47) (v := ?_) (a' := ?_) (bl 12 6) rfl rfl (any_of HT_.out (by kernel_rfl)) (fun _ _ _ h => h) (Or.inl ⟨by rfl, ?_⟩) ?_ ?_
      rotate_left
      · intro w'
        go_simp
        with_reducible rfl
      rotate_left
      · simp only [Act.put, List.setIfInBounds_toArray, List.set_cons_zero, List.set_cons_succ, i64_w, i32_w]
        rfl
      refine pure_ (i := 3) (N := some 48) (v := ?_) (a' := ?_) (bl 12 14) rfl rfl (any_of HT_.out (by kernel_rfl)) (fun _ _ _ h => h) (Or.inl ⟨by rfl, ?_⟩) ?_ ?_
      rotate_left
      · intro w'
        go_simp
        with_reducible rfl
      rotate_left
      · simp only [Act.put, List.setIfInBounds_toArray, List.set_cons_zero, List.set_cons_succ, i64_w, i32_w]
        rfl
      refine pure_ (i := 5) (N := some 50) (v := ?_) (a' := ?_) (bl 12 46) rfl rfl (any_of HT_.out (by kernel_rfl)) (fun _ _ _ h => h) (Or.inl ⟨by rfl, ?_⟩) ?_ ?_
      rotate_left
      · intro w'
        go_simp
        with_reducible rfl
      rotate_left
      · simp only [Act.put, List.setIfInBounds_toArray, List.set_cons_zero, List.set_cons_succ, i64_w, i32_w]
        rfl
      refine take_ (i := 0) (N := some 45) (v := ?_) (a' := ?_) (bl 12 47) rfl rfl (take_ofW HT_.out HW_.out (by kernel_rfl)) (fun _ _ _ h => h) (Or.inl ⟨by rfl, ?_⟩) hHeld ?_ ?_
      rotate_left
      · rintro w' ⟨s0, s1, s2, s3⟩
        go_simp
        with_reducible rfl
      rotate_left
      · simp only [Act.put, List.setIfInBounds_toArray, List.set_cons_zero, List.set_cons_succ, i64_w, i32_w]
        rfl
      refine take_ (i := 4) (N := some 49) (v := ?_) (a' := ?_) (bl 12 63) rfl rfl (take_ofW HT_.out HW_.out (by kernel_rfl)) (fun _ _ _ h => h) (Or.inl ⟨by rfl, ?_⟩) hHeld ?_ ?_
      rotate_left
      · rintro w' ⟨s0, s1, s2, s3⟩
        go_simp
        with_reducible rfl
      rotate_left
      · simp only [Act.put, List.setIfInBounds_toArray, List.set_cons_zero, List.set_cons_succ, i64_w, i32_w]
        rfl
      refine one_ (i := 6) (N := some 51) (bl 12 127) rfl rfl (one_of HT_.out (by kernel_rfl)) (by decide) (fun K hK => ?_)
      refine goes_ Try.func42 (by kernel_rfl) rfl #[.agg #[.int .i64 m, .slice A3 T.length c3, .slice A4 P.length c4], .int .i64 y1, .int .i64 kI] (by rfl) rfl rfl (by (try simp only [List.map_toArray, List.map_cons, List.map_nil]); first | done | rfl | (simp only [List.length_drop, List.length_take]; rfl)) ?_
      refine (HCO.out _ HVd.out.t HVd.out.p).mono ?_
      rintro e w6 ⟨vc, rfl, hrc, hb⟩
      obtain ⟨A6, c6, rfl, hc6, hC6⟩ := Kd.R_reads hrc
      have HV6 := Lib.hid (HVd.out.below hb)
      have HC56 := Lib.hid (Kd.C_below HC5d.out hb)
      have HC6 := Lib.hid hC6
      have k4e := pw_cell_below hb hHeld.2.2.2
      have HK36 := Lib.hid (fun h0 => pw_cell_below hb (HK3.out h0))
      clear hb g0 g1 g2 k4 hrc hC6
      refine ⟨_, rfl, ?_⟩
      refine hK.out _ _ ⟨HV6.out.rule.cell 0, HV6.out.rule.cell 1, HV6.out.rule.cell 2, k4e⟩ (fun hHeld => ?_)
      clear hK K
      refine norm_ (a' := ?_) ?_ ?_
      rotate_left
      · show Act.put _ (some 51) _ = _
        simp only [Act.put, List.setIfInBounds_toArray, List.set_cons_zero, List.set_cons_succ, i64_w, i32_w]
        rfl
      refine pure_ (i := 7) (N := some 44) (v := ?_) (a' := ?_) (bl 12 255) rfl rfl (any_of HT_.out (by kernel_rfl)) (fun _ _ _ h => h) (Or.inl ⟨by rfl, ?_⟩) ?_ ?_
      rotate_left
      · intro w'
        go_simp
        with_reducible rfl
      rotate_left
      · simp only [Act.put, List.setIfInBounds_toArray, List.set_cons_zero, List.set_cons_succ, i64_w, i32_w]
        rfl
      refine pure_ (i := 8) (N := some 52) (v := ?_) (a' := ?_) (bl 12 511) rfl rfl (any_of HT_.out (by kernel_rfl)) (fun _ _ _ h => h) (Or.inl ⟨by rfl, ?_⟩) ?_ ?_
      rotate_left
      · intro w'
        go_simp
        with_reducible rfl
      rotate_left
      · simp only [Act.put, List.setIfInBounds_toArray, List.set_cons_zero, List.set_cons_succ, i64_w, i32_w]
        rfl
      refine pure_ (i := 9) (N := some 53) (v := ?_) (a' := ?_) (bl 12 1023) rfl rfl (any_of HT_.out (by kernel_rfl)) (fun _ _ _ h => h) (Or.inl ⟨by rfl, ?_⟩) ?_ ?_
      rotate_left
      · intro w'
        go_simp
        with_reducible rfl
      rotate_left
      · simp only [Act.put, List.setIfInBounds_toArray, List.set_cons_zero, List.set_cons_succ, i64_w, i32_w]
        rfl
      refine pure_ (i := 10) (N := some 13) (v := ?_) (a' := ?_) (bl 12 2047) rfl rfl (any_of HT_.out (by kernel_rfl)) (fun _ _ _ h => h) (Or.inl ⟨by rfl, ?_⟩) ?_ ?_
      rotate_left
      · intro w'
        go_simp
        with_reducible rfl
      rotate_left
      · simp only [Act.put, List.setIfInBounds_toArray, List.set_cons_zero, List.set_cons_succ, i64_w, i32_w]
        rfl
      refine pure_ (i := 11) (N := some 14) (v := ?_) (a' := ?_) (bl 12 4095) rfl rfl (any_of HT_.out (by kernel_rfl)) (fun _ _ _ h => h) (Or.inl ⟨by rfl, ?_⟩) ?_ ?_
      rotate_left
      · intro w'
        go_simp
        with_reducible rfl
      rotate_left
      · simp only [Act.put, List.setIfInBounds_toArray, List.set_cons_zero, List.set_cons_succ, i64_w, i32_w]
        rfl
      refine done_ (done_of HT_.out (by kernel_rfl)) ?_
      have g0 := HV6.out.rule.cell 0
      have g1 := HV6.out.rule.cell 1
      have g2 := HV6.out.rule.cell 2
      have glt := HV6.out.rule.lt
      simp only [List.getElem?_toArray, List.getElem?_cons_zero, List.getElem?_cons_succ] at g0 g1 g2
      clear hHeld HT_ HW_
      go_wp2_with (first
        | (go_at_call 37; refine (HFX.out _ A6 c6 HV6.out.t HV6.out.p HC6.out hc6).mono ?_; rintro e w7 ⟨rfl, hb⟩; have HV7 := Lib.hid (HV6.out.below hb); have HC67 := Lib.hid (Kd.C_below (HC6.out) hb); have HC57 := Lib.hid (Kd.C_below (HC56.out) hb); have k47 := pw_cell_below hb k4e; have HK37 := Lib.hid (fun h0 => pw_cell_below hb (HK36.out h0)); have HV7b := Lib.hid (HV7.out.below (below_alloc (Below.refl _ _) (.cells #[.int .i64 y1, .int .i64 1] 49))); have HB7 := Lib.hid (Whole.new w7 49 #[.int .i64 y1, .int .i64 1]); clear g0 g1 g2 glt; have g0 := HV7b.out.rule.cell 0; have g1 := HV7b.out.rule.cell 1; have g2 := HV7b.out.rule.cell 2; have glt := HV7b.out.rule.lt; simp only [List.getElem?_toArray, List.getElem?_cons_zero, List.getElem?_cons_succ] at g0 g1 g2; clear hb)
        | (go_at_call 35; refine (HST.out _ A6 c6 HV7b.out.t HV7b.out.p (Kd.C_alloc HC67.out _) hc6).mono ?_; rintro e w8 ⟨rfl, hb⟩; have HV8 := Lib.hid (HV7b.out.below hb); have HC68 := Lib.hid (Kd.C_below (Kd.C_alloc HC67.out _) hb); have HC58 := Lib.hid (Kd.C_below (Kd.C_alloc HC57.out _) hb); have HB8 := Lib.hid (HB7.out.below hb HB7.out.lt); have HBB8 := Lib.hid (below_then (below_alloc (Below.refl w7.heap.size w7) (.cells #[.int .i64 y1, .int .i64 1] 49)) (by simp) hb); clear hb; clear g0 g1 g2 glt; have g0 := HV8.out.rule.cell 0; have g1 := HV8.out.rule.cell 1; have g2 := HV8.out.rule.cell 2; have glt := HV8.out.rule.lt; simp only [List.getElem?_toArray, List.getElem?_cons_zero, List.getElem?_cons_succ] at g0 g1 g2)
        | (go_at_call 36; refine (HFO.out _ A6 c6 HV8.out.t HV8.out.p HC68.out hc6).mono ?_; rintro e w9 ⟨rfl, hb⟩; have HV9 := Lib.hid (HV8.out.below hb); have HC59 := Lib.hid (Kd.C_below HC58.out hb); have HB9 := Lib.hid (HB8.out.below hb HB8.out.lt); have HBB9 := Lib.hid (below_then HBB8.out HBB8.out.size hb); clear hb g0 g1 g2 glt))
      have q0 := HB9.out.cell 0
      have q1 := HB9.out.cell 1
      simp only [List.getElem?_toArray, List.getElem?_cons_zero, List.getElem?_cons_succ] at q0 q1
      have k49 := pw_cell_below HBB9.out k47
      have b1 : ¬ d < 1 := by omega
      have b2 : decide (d < 1) = false := decide_eq_false b1
      have b3 : IntKind.i64.wrap (y1 - s) = y1 - s := by rw [i64_w]; unfold wrap64; omega
      have b4 : ¬ d = 0 := by omega
      have b5 : (k : Int) < (l.length : Int) := by omega
      by_cases hk0 : k = 0
      · have b7 : decide ((k : Int) > 0) = false := decide_eq_false (by omega)
        have b10 : decide (0 < k) = false := decide_eq_false (by omega)
        have b11 : ¬ 0 < k := by omega
        clear hk0
        go_quiet (fail)
        go_wp2
        exact ⟨⟨k + 1, by omega, by go_num, HV9.out.below (pw_below_drewN (Below.refl _ _) _), Kd.C_drewN HC59.out _⟩, by simp [intOf]; omega⟩
      · have b6 : (0 : Int) < (k : Int) := by omega
        have b7 : decide ((k : Int) > 0) = true := decide_eq_true (by omega)
        have b10 : decide (0 < k) = true := decide_eq_true (by omega)
        have b8 : y0 < y1 := HSS.out (by omega) hlt
        have b9 : ¬ y0 ≥ y1 := by omega
        have b9' : decide (y0 ≥ y1) = false := decide_eq_false b9
        have b12 : decide (y1 ≤ y0) = false := decide_eq_false (by omega)
        have b13 : IntKind.i64.wrap ((k : Int) - 1) = (k : Int) - 1 := by rw [i64_w]; unfold wrap64; omega
        have b14 : (0 : Int) ≤ (k : Int) - 1 := by omega
        have b15 : (k : Int) - 1 < (l.length : Int) := by omega
        have k39 := pw_cell_below HBB9.out (HK37.out (by omega))
        have k39' := k39
        rw [show k - 1 = ((k : Int) - 1).toNat by omega] at k39'
        go_quiet (fail)
        go_wp2
        exact ⟨⟨k + 1, by omega, by go_num, HV9.out.below (pw_below_drewN (Below.refl _ _) _), Kd.C_drewN HC59.out _⟩, by simp [intOf]; omega⟩
    · obtain rfl : k = l.length := by omega
      have HV5 := Lib.hid hV
      clear hV hC5
      go_wp2_with (go_at_call 27; refine (remouldlaw06_awake.calls 0 true _ rfl).mono ?_; rintro e w6 ⟨rfl, hb⟩; have HV6 := Lib.hid (HV5.out.below hb); clear hb)
      go_ret
      exact ⟨rfl, HV6.out.bel⟩
end

theorem wheelFixed_calls (a0 : Int) (A1 : Option Addr) (c1 : Nat) (l1 : List Int) (A2 : Option Addr) (c2 : Nat) (l2 : List Int) (a3 : Int) (w : World) (h1 : Kd.C (Kd.int .i64) w A1 l1.length l1) (hc1 : l1.length ≤ c1) (h2 : Kd.C (Kd.int .i64) w A2 l2.length l2) (hc2 : l2.length ≤ c2) :
    Calls Try.prog 12 #[.int .i64 a0, .slice A1 l1.length c1, .slice A2 l2.length c2, .int .i64 a3] w fun e w' => e = .returned (.bool true) ∧ Below w.heap.size w w' := by
  obtain ⟨m, T, P, ht, hR⟩ := tame_f a0 l1 l2
  obtain ⟨kt, hkt⟩ := ht.get
  have hq := modW_in a3 5 (by decide)
  have hm1 := mod_f a3 5 (by decide) (by decide)
  obtain ⟨K, hK⟩ : ∃ K : Nat, (K : Int) = 1 + modW a3 5 := ⟨(1 + modW a3 5).toNat, by omega⟩
  rw [show modW a3 5 = (K : Int) - 1 by omega] at hm1
  have h0 : 0 < K := by omega
  have h5 : K ≤ 5 := by omega
  have hW : wheel_Whole.f m T P K = some (wholeL m T P K, 0) := by
    rw [wheel_Whole.f, ruleB_of hR, show inB (K : Int) 1 5 = true by simp [inB]; omega]
    rfl
  have hs := wholeL_sorted hR K
  have hi := fun y => wholeL_iff hR h0 h5 y
  have hl := wholeL_length hR (K := K) h5
  generalize wholeL m T P K = l at *
  refine fixed_walk a0 A1 c1 l1 A2 c2 l2 a3 w h1 hc1 h2 hc2 kt m T P hkt K (by omega) hm1 l hW hl (fun i h1 h2 => ?_) (fun i h1 => ?_)
  · have e1 : rd l (i : Int) = l[i] := by simp [rd, h2]
    have e2 : rd l ((i : Int) - 1) = l[i - 1]'(by omega) := by
      rw [show (i : Int) - 1 = ((i - 1 : Nat) : Int) by omega]
      simp [rd, show i - 1 < l.length by omega]
    rw [e1, e2]
    exact List.pairwise_iff_getElem.1 hs (i - 1) i (by omega) h2 (by omega)
  · have e1 : rd l (i : Int) = l[i] := by simp [rd, h1]
    rw [e1]
    exact fixP hR h0 h5 ((hi _).1 (List.getElem_mem h1))
end Go.Proofs.Ytkjojcepombhpaa.L
