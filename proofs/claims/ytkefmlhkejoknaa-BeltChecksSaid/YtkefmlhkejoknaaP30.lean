/- Plain law: what IsApart asks; the law BeltChecks. -/
import Derived.Test.YtkefmlhkejoknaaP14
import Derived.Test.YtkefmlhkejoknaaL24
namespace Go.Proofs.Ytkefmlhkejoknaa.L
set_option linter.unusedVariables false
set_option linter.unusedSimpArgs false
open Go.RowKit Go.Proofs.YtkefmlhkejoknaaW.PrintWords Go.Proofs.YtkefmlhkejoknaaW.PrintLast Go.Proofs.YtkefmlhkejoknaaW.PrintMore

theorem upIn_mk {N : Int} {l : List S49} (h : graphOk N l = true) : UpIn N l := by
  intro e he
  obtain ⟨i, hi, rfl⟩ := List.getElem_of_mem he
  have := (edgeOk_iff ..).1 (graphOk_edge h i hi).1
  rw [rd_at l i hi] at this
  omega
theorem wraps_i64 (n : Int) (h0 : 0 ≤ n) (h1 : n < 2 ^ 63) : IntKind.i64.wrap n = n := by rw [IntKind.wrap_i64]; omega
theorem i64_and (a b : Nat) (ha : a < 2 ^ 63) (hb : b < 2 ^ 63) : Go.bits .and .i64 (a : Int) (b : Int) = ((a &&& b : Nat) : Int) :=
  (bits_nat .i64 63 (by decide) wraps_i64 a b ha hb).1
theorem mask_ends {l : List S49} {c : List Int} (h : CycIs l c) : cyR l c c.length = some (maskOf l (endsB c)) := cyR_mask h c.length (Nat.le_refl _)
theorem rd_L4_at (cs : List (List Int)) (i : Nat) (h : i < cs.length) : rd_L4 cs (i : Int) = cs[i] := by
  simp [rd_L4, List.getD_eq_getElem?_getD, h]
theorem apart_l0 (N : Int) (l : List S49) (hU : UpIn N l) (hl : l.length ≤ 41) (cs : List (List Int)) (hcs : ∀ c ∈ cs, c.length ≤ 1000) (hlen : cs.length ≤ 1000) : ∀ d i : Nat, i + d = cs.length → ∀ used : List (Int × Int), (∀ p ∈ used, hasEdge l p.1 p.2 = true) →
    Ev (fun k => remouldref05_IsApart.l0 k l cs (maskOf l used : Nat) i) (checkB N l (cs.drop i) used) := by
  intro d
  induction d with
  | zero =>
    intro i hi used hu
    obtain rfl : i = cs.length := by omega
    rw [List.drop_length, checkB]
    exact Ev.step (fun k => by rw [remouldref05_IsApart.l0, if_neg (by omega)]) (Ev.const true)
  | succ d ih =>
    intro i hi used hu
    have hlt : i < cs.length := by omega
    have hc := hcs _ (List.getElem_mem hlt)
    rw [List.drop_eq_getElem_cons hlt, checkB]
    by_cases h : CycIs l cs[i]
    · obtain ⟨s, h1, h2⟩ := cycle_yes hl hc h
      rw [mask_ends h] at h1
      obtain rfl := (Option.some.inj h1).symm
      rw [(isCycle_iff hU _).2 h, Bool.true_and]
      have m1 := mask_lt l used hu
      have m2 := mask_lt l _ (ends_in h)
      have hp : 2 ^ l.length ≤ 2 ^ 41 := Nat.pow_le_pow_right (by omega) hl
      have hstep : ∀ (k : Nat) (r : Option Bool), (if maskOf l used &&& maskOf l (endsB cs[i]) = 0 then remouldref05_IsApart.l0 k l cs ((maskOf l used + maskOf l (endsB cs[i]) : Nat) : Int) ((i + 1 : Nat) : Int) else some false) = r → remouldref05_IsApart.l0 (k + 1) l cs (maskOf l used : Nat) i = r := by
        intro k r hr
        rw [← hr, remouldref05_IsApart.l0, if_pos (by omega), if_pos (by omega), rd_L4_at cs i hlt, h2]
        show (if Go.bits .and .i64 (maskOf l used : Nat) (maskOf l (endsB cs[i]) : Nat) = 0 then remouldref05_IsApart.l0 k l cs (wrap64 ((maskOf l used : Nat) + (maskOf l (endsB cs[i]) : Nat))) (wrap64 ((i : Int) + 1)) else some false) = _
        rw [i64_and _ _ (by omega) (by omega), wrap64_id _ (by omega) (by omega), wrap64_id _ (by omega) (by omega)]
        by_cases hz : maskOf l used &&& maskOf l (endsB cs[i]) = 0
        · rw [if_pos (by rw [hz]; rfl), if_pos hz]; rfl
        · rw [if_neg (by omega), if_neg hz]
      by_cases hz : maskOf l used &&& maskOf l (endsB cs[i]) = 0
      · rw [(free_mask h used hu).2 hz, Bool.true_and]
        have hu' : ∀ p ∈ endsB cs[i] ++ used, hasEdge l p.1 p.2 = true := by
          intro p hp
          rcases List.mem_append.1 hp with h3 | h3
          · exact ends_in h p h3
          · exact hu p h3
        have := ih (i + 1) (by omega) (endsB cs[i] ++ used) hu'
        rw [mask_append, Nat.or_comm, ← add_or _ _ l.length m1 m2 hz] at this
        exact Ev.step (fun k => hstep k _ (if_pos hz)) this
      · have hf : freeB used (endsB cs[i]) = false := by
          rw [Bool.eq_false_iff]; exact fun e => hz ((free_mask h used hu).1 e)
        rw [hf, Bool.false_and]
        exact Ev.step (fun k => hstep k _ (if_neg hz)) (Ev.const false)
    · have hf : isCycleB N l cs[i] = false := by
        rw [Bool.eq_false_iff]; exact fun e => h ((isCycle_iff hU _).1 e)
      rw [hf, Bool.false_and, Bool.false_and]
      refine Ev.step (fun k => ?_) (Ev.const false)
      rw [remouldref05_IsApart.l0, if_pos (by omega), if_pos (by omega), rd_L4_at cs i hlt, cycle_no hl hc h]
      rfl
theorem apart_f (N : Int) (l : List S49) (hU : UpIn N l) (hl : l.length ≤ 41) (cs : List (List Int)) (hcs : ∀ c ∈ cs, c.length ≤ 1000) (hlen : cs.length ≤ 1000) : Ev (fun k => remouldref05_IsApart.f k l cs) (checkB N l cs []) :=
  apart_l0 N l hU hl cs hcs hlen cs.length 0 (by omega) [] (by simp)
/-- The lists as the law cuts them. -/
def cutL (cs : List (List Int)) : List (List Int) := (cs.take 15).map (List.take 13)
theorem checks_l0 (n : Int) (g : List S49) (cs : List (List Int)) (hj : Ev (fun k => remouldlaw05_BeltChecks.j1 k n g (cutL cs)) true) : ∀ d i : Nat, i + d = min cs.length 15 → Ev (fun k => remouldlaw05_BeltChecks.l0 k n cs g ((cs.take i).map (List.take 13)) i) true := by
  intro d
  induction d with
  | zero =>
    intro i hi
    have e : (cs.take i).map (List.take 13) = cutL cs := by
      unfold cutL
      congr 1
      rcases Nat.le_total cs.length 15 with h | h
      · rw [List.take_of_length_le (by omega), List.take_of_length_le h]
      · rw [show i = 15 by omega]
    rw [e]
    refine Ev.step (fun k => ?_) hj
    rw [remouldlaw05_BeltChecks.l0]
    by_cases h : (i : Int) < (cs.length : Int)
    · rw [if_pos h, if_neg (by omega)]
    · rw [if_neg h]
  | succ d ih =>
    intro i hi
    have hlt : i < cs.length := by omega
    have ih' := ih (i + 1) (by omega)
    rw [List.take_succ_eq_append_getElem hlt, List.map_append] at ih'
    refine Ev.step (fun k => ?_) ih'
    have hm : mn ((rd_L4 cs (i : Int)).length : Int) 13 = ((min cs[i].length 13 : Nat) : Int) := by
      rw [rd_L4_at cs i hlt]; unfold mn; split <;> omega
    have hcl : ((cs.take i).map (List.take 13)).length ≤ 15 := by simp; omega
    rw [remouldlaw05_BeltChecks.l0, if_pos (by omega), if_pos (by omega), if_pos (by omega), hm, if_pos (by omega), rd_L4_at cs i hlt, if_pos (by omega), if_pos (by simp; omega), if_pos (by omega), wrap64_id _ (by omega) (by omega)]
    have ht : [] ++ cs[i].take ((min cs[i].length 13 : Nat) : Int).toNat = cs[i].take 13 := by
      rw [List.nil_append, Int.toNat_natCast]
      rcases Nat.le_total cs[i].length 13 with h | h
      · rw [List.take_of_length_le (by omega), List.take_of_length_le h]
      · rw [Nat.min_eq_right h]
    rw [ht]
    rfl
theorem pureChecks (a0 : Int) (l1 : List S49) (l2 : List (List Int)) : ∃ k, remouldlaw05_BeltChecks.f k a0 l1 l2 = some true := by
  apply Ev.get
  have hl : (l1.take 41).length ≤ 41 := by simp; omega
  have hg := graph_f a0 (l1.take 41) hl
  have e0 : Ev (fun _ : Nat => remouldlaw05_edges.f l1) (l1.take 41) := ⟨0, fun _ _ => edges_f l1⟩
  refine Ev.bind e0 ?_
  generalize l1.take 41 = x at hl hg
  have haw : Ev (fun k => (remouldlaw05_awake.f k).bind fun t => some t) true := Ev.bind awake_f (Ev.const true)
  have hcl : (cutL l2).length ≤ 15 := by unfold cutL; simp; omega
  have hcm : ∀ c ∈ cutL l2, c.length ≤ 13 := by
    intro c hc
    unfold cutL at hc
    rw [List.mem_map] at hc
    obtain ⟨y, _, rfl⟩ := hc
    simp; omega
  refine checks_l0 a0 x l2 ?_ (min l2.length 15) 0 (by omega)
  have b1 : Ev (fun _ : Nat => belt_CheckG.f a0 x (cutL l2)) (if graphOk a0 x then (if checkB a0 x (cutL l2) [] then (((cutL l2).length : Int), 0) else (0, 10)) else (0, 2)) := ⟨0, fun _ _ => by
    rw [belt_CheckG.f, if_pos ⟨by omega, by rw [List.all_eq_true]; intro c hc; have := hcm c hc; simp; omega⟩, belt_Check.f]⟩
  refine Ev.step (fun k => by rw [remouldlaw05_BeltChecks.j1]) (Ev.bind b1 (Ev.bind hg ?_))
  cases h : graphOk a0 x
  · exact Ev.congr (h := fun k => (remouldlaw05_awake.f k).bind fun t => some t) (fun k => by simp) haw
  · have ha := apart_f a0 x (upIn_mk h) hl (cutL l2) (fun c hc => by have := hcm c hc; omega) (by omega)
    refine Ev.congr (fun k => if_pos rfl) (Ev.bind ha ?_)
    cases hq : checkB a0 x (cutL l2) []
    · exact Ev.congr (h := fun k => (remouldlaw05_awake.f k).bind fun t => some t) (fun k => by simp) haw
    · exact Ev.congr (h := fun k => (remouldlaw05_awake.f k).bind fun t => some t) (fun k => by simp) haw

end Go.Proofs.Ytkefmlhkejoknaa.L
