/- WheelEnds (9): the walk, by hand: for every input the law returns true. -/
import Derived.Test.YtkjojcepombhpaaXLawV
import Derived.Test.YtkjojcepombhpaaNEnds
import Derived.Test.YtkjojcepombhpaaXSend
namespace Go.Proofs.Ytkjojcepombhpaa.L
set_option linter.unusedVariables false
set_option linter.unusedSimpArgs false
open Go.RowKit Go.Shelf Go.Proofs.YtkjojcepombhpaaW.PrintWords Go.Proofs.YtkjojcepombhpaaW.PrintLast Go.Proofs.YtkjojcepombhpaaW.PrintMore

set_option maxRecDepth 100000 in
set_option maxHeartbeats 8000000 in
theorem ends_full (a0 : Int) (A1 : Option Addr) (c1 : Nat) (l1 : List Int) (A2 : Option Addr) (c2 : Nat) (l2 : List Int) (a3 a4 : Int) (w : World) (h1 : Kd.C (Kd.int .i64) w A1 l1.length l1) (hc1 : l1.length ≤ c1) (h2 : Kd.C (Kd.int .i64) w A2 l2.length l2) (hc2 : l2.length ≤ c2)
    (kt : Nat) (m : Int) (T P : List Int) (hkt : remouldlaw06_tame.f kt a0 l1 l2 = some (m, T, P)) (hR : RuleIs m T P) (x steps : Int) (hx : -524288 ≤ x ∧ x < 524288) (hm1 : remouldlaw06_mod.f a3 1048576 = some (x + 524288)) (hs : 0 ≤ steps ∧ steps < 100) (hm2 : remouldlaw06_mod.f a4 100 = some steps)
    (cy : List Int) (at' : Int) (hcy : wheel_Cycle.f m T P x steps = some (cy, at', 5)) (l : List Int) (hor : wheel_Orbit.f m T P x steps = some (l, 5)) :
    Calls Try.prog 9 #[.int .i64 a0, .slice A1 l1.length c1, .slice A2 l2.length c2, .int .i64 a3, .int .i64 a4] w fun e w' => e = .returned (.bool true) ∧ Below w.heap.size w w' := by
  have HT := Lib.hid (remouldlaw06_tame.calls kt a0 A1 c1 l1 A2 c2 l2 m T P w h1 hc1 h2 hc2 hkt)
  have HM1 := Lib.hid (fun W => remouldlaw06_mod.calls a3 1048576 (x + 524288) W hm1)
  have HM2 := Lib.hid (fun W => remouldlaw06_mod.calls a4 100 steps W hm2)
  have HCY := Lib.hid (fun W A3 c3 A4 c4 hA hcA hB hcB => wheel_Cycle.calls m A3 c3 T A4 c4 P x steps cy at' 5 W hA hcA hB hcB hcy)
  have HOR := Lib.hid (fun W A3 c3 A4 c4 hA hcA hB hcB => wheel_Orbit.calls m A3 c3 T A4 c4 P x steps l 5 W hA hcA hB hcB hor)
  have HRU := Lib.hid hR
  have hxx : x + 524288 - 524288 = x := by omega
  clear h1 h2 hkt hm1 hm2 hcy hor hR
  go_enter Try.func9, Try.ntmps9
  go_wp2_with (first
    | (go_at_call 44; refine HT.out.mono ?_; rintro e w1 ⟨v1, v2, rfl, hr1, hr2, hb⟩; obtain ⟨A3, c3, rfl, hc3, hC3⟩ := Kd.R_reads hr1; obtain ⟨A4, c4, rfl, hc4, hC4⟩ := Kd.R_reads hr2; have HV1 := Lib.hid (LawV.new w w1 m A3 c3 T A4 c4 P hC3 hC4 hb); clear hb hr1 hr2 hC3 hC4)
    | (go_at_call 46; refine (HM1.out _).mono ?_; rintro e w2 ⟨rfl, hd⟩; have HV2 := Lib.hid (HV1.out.below hd.below); clear hd)
    | (go_at_call 46; refine (HM2.out _).mono ?_; rintro e w3 ⟨rfl, hd⟩; have HV3 := Lib.hid (HV2.out.below hd.below); clear hd; have g0 := HV3.out.rule.cell 0; have g1 := HV3.out.rule.cell 1; have g2 := HV3.out.rule.cell 2; have glt := HV3.out.rule.lt; simp only [List.getElem?_toArray, List.getElem?_cons_zero, List.getElem?_cons_succ] at g0 g1 g2)
    | (go_at_call 32; refine (HCY.out _ A3 c3 A4 c4 HV3.out.t hc3 HV3.out.p hc4).mono ?_; rintro e w4 ⟨vc, rfl, hrc, hb⟩; have HV4 := Lib.hid (HV3.out.below hb); obtain ⟨A5, c5, rfl, hc5, hC5⟩ := Kd.R_reads hrc; have HC5 := Lib.hid hC5; clear hb hrc hC5 g0 g1 g2 glt; have g0 := HV4.out.rule.cell 0; have g1 := HV4.out.rule.cell 1; have g2 := HV4.out.rule.cell 2; have glt := HV4.out.rule.lt; simp only [List.getElem?_toArray, List.getElem?_cons_zero, List.getElem?_cons_succ] at g0 g1 g2)
    | (go_at_call 24; refine (HOR.out _ A3 c3 A4 c4 HV4.out.t hc3 HV4.out.p hc4).mono ?_; rintro e w5 ⟨vl, rfl, hrl, hb⟩; have HV5 := Lib.hid (HV4.out.below hb); obtain ⟨A6, c6, rfl, hc6, hC6⟩ := Kd.R_reads hrl; have HC6 := Lib.hid hC6; have HC5b := Lib.hid (Kd.C_below HC5.out hb); clear hb hrl hC6 g0 g1 g2 glt)
    | (go_at_call 27; refine (remouldlaw06_awake.calls 0 true _ rfl).mono ?_; rintro e w6 ⟨rfl, hb⟩; have HV6 := Lib.hid (HV5.out.below hb); clear hb))
  go_ret
  exact ⟨rfl, HV6.out.bel⟩
set_option maxRecDepth 100000 in
set_option maxHeartbeats 8000000 in
theorem ends_none (a0 : Int) (A1 : Option Addr) (c1 : Nat) (l1 : List Int) (A2 : Option Addr) (c2 : Nat) (l2 : List Int) (a3 a4 : Int) (w : World) (h1 : Kd.C (Kd.int .i64) w A1 l1.length l1) (hc1 : l1.length ≤ c1) (h2 : Kd.C (Kd.int .i64) w A2 l2.length l2) (hc2 : l2.length ≤ c2)
    (kt : Nat) (m : Int) (T P : List Int) (hkt : remouldlaw06_tame.f kt a0 l1 l2 = some (m, T, P)) (hR : RuleIs m T P) (x steps : Int) (hx : -524288 ≤ x ∧ x < 524288) (hm1 : remouldlaw06_mod.f a3 1048576 = some (x + 524288)) (hs : 0 ≤ steps ∧ steps < 100) (hm2 : remouldlaw06_mod.f a4 100 = some steps)
    (cy : List Int) (at' : Int) (hcy : wheel_Cycle.f m T P x steps = some (cy, at', 6)) (l : List Int) (hor : wheel_Orbit.f m T P x steps = some (l, 0)) (hll : (l.length : Int) = steps + 1) :
    Calls Try.prog 9 #[.int .i64 a0, .slice A1 l1.length c1, .slice A2 l2.length c2, .int .i64 a3, .int .i64 a4] w fun e w' => e = .returned (.bool true) ∧ Below w.heap.size w w' := by
  have HT := Lib.hid (remouldlaw06_tame.calls kt a0 A1 c1 l1 A2 c2 l2 m T P w h1 hc1 h2 hc2 hkt)
  have HM1 := Lib.hid (fun W => remouldlaw06_mod.calls a3 1048576 (x + 524288) W hm1)
  have HM2 := Lib.hid (fun W => remouldlaw06_mod.calls a4 100 steps W hm2)
  have HCY := Lib.hid (fun W A3 c3 A4 c4 hA hcA hB hcB => wheel_Cycle.calls m A3 c3 T A4 c4 P x steps cy at' 6 W hA hcA hB hcB hcy)
  have HOR := Lib.hid (fun W A3 c3 A4 c4 hA hcA hB hcB => wheel_Orbit.calls m A3 c3 T A4 c4 P x steps l 0 W hA hcA hB hcB hor)
  have HRU := Lib.hid hR
  have hxx : x + 524288 - 524288 = x := by omega
  clear h1 h2 hkt hm1 hm2 hcy hor hR
  go_enter Try.func9, Try.ntmps9
  go_wp2_with (first
    | (go_at_call 44; refine HT.out.mono ?_; rintro e w1 ⟨v1, v2, rfl, hr1, hr2, hb⟩; obtain ⟨A3, c3, rfl, hc3, hC3⟩ := Kd.R_reads hr1; obtain ⟨A4, c4, rfl, hc4, hC4⟩ := Kd.R_reads hr2; have HV1 := Lib.hid (LawV.new w w1 m A3 c3 T A4 c4 P hC3 hC4 hb); clear hb hr1 hr2 hC3 hC4)
    | (go_at_call 46; refine (HM1.out _).mono ?_; rintro e w2 ⟨rfl, hd⟩; have HV2 := Lib.hid (HV1.out.below hd.below); clear hd)
    | (go_at_call 46; refine (HM2.out _).mono ?_; rintro e w3 ⟨rfl, hd⟩; have HV3 := Lib.hid (HV2.out.below hd.below); clear hd; have g0 := HV3.out.rule.cell 0; have g1 := HV3.out.rule.cell 1; have g2 := HV3.out.rule.cell 2; have glt := HV3.out.rule.lt; simp only [List.getElem?_toArray, List.getElem?_cons_zero, List.getElem?_cons_succ] at g0 g1 g2)
    | (go_at_call 32; refine (HCY.out _ A3 c3 A4 c4 HV3.out.t hc3 HV3.out.p hc4).mono ?_; rintro e w4 ⟨vc, rfl, hrc, hb⟩; have HV4 := Lib.hid (HV3.out.below hb); obtain ⟨A5, c5, rfl, hc5, hC5⟩ := Kd.R_reads hrc; have HC5 := Lib.hid hC5; clear hb hrc hC5 g0 g1 g2 glt; have g0 := HV4.out.rule.cell 0; have g1 := HV4.out.rule.cell 1; have g2 := HV4.out.rule.cell 2; have glt := HV4.out.rule.lt; simp only [List.getElem?_toArray, List.getElem?_cons_zero, List.getElem?_cons_succ] at g0 g1 g2)
    | (go_at_call 24; refine (HOR.out _ A3 c3 A4 c4 HV4.out.t hc3 HV4.out.p hc4).mono ?_; rintro e w5 ⟨vl, rfl, hrl, hb⟩; have HV5 := Lib.hid (HV4.out.below hb); obtain ⟨A6, c6, rfl, hc6, hC6⟩ := Kd.R_reads hrl; have HC6 := Lib.hid hC6; have HC5b := Lib.hid (Kd.C_below HC5.out hb); clear hb hrl hC6 g0 g1 g2 glt)
    | (go_at_call 27; refine (remouldlaw06_awake.calls 0 true _ rfl).mono ?_; rintro e w6 ⟨rfl, hb⟩; have HV6 := Lib.hid (HV5.out.below hb); clear hb))
  go_ret
  exact ⟨rfl, HV6.out.bel⟩
end Go.Proofs.Ytkjojcepombhpaa.L
