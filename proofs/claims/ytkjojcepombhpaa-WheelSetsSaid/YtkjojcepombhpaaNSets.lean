/- Plain law: the reference's Sets; the law WheelSets. -/
import Derived.Test.YtkjojcepombhpaaN12
import Derived.Test.YtkjojcepombhpaaXSets
import Derived.Test.YtkjojcepombhpaaL26
namespace Go.Proofs.Ytkjojcepombhpaa.L
set_option linter.unusedVariables false
set_option linter.unusedSimpArgs false
open Go.RowKit Go.Proofs.YtkjojcepombhpaaW.PrintWords Go.Proofs.YtkjojcepombhpaaW.PrintLast Go.Proofs.YtkjojcepombhpaaW.PrintMore

variable {m : Int} {t p : List Int}
/-- How the reference hands the sizes back. -/
def setsRes : Option (List Int) → List Int × Bool
  | some l => (l, true)
  | none => ([], false)
theorem nextW_take (now : List Int) (q : Nat) (hq : q < now.length) : nextW m t p (now.take (q + 1)) = nextW m t p (now.take q) ++ backW m t p (rd now (q : Int)) := by
  rw [List.take_succ_eq_append_getElem hq, nextW, List.flatMap_append, show rd now (q : Int) = now[q] by simp [rd, hq]]
  simp [nextW]
theorem nextW_drop (now : List Int) (q : Nat) : nextW m t p now = nextW m t p (now.take q) ++ nextW m t p (now.drop q) := by
  unfold nextW
  rw [← List.flatMap_append, List.take_append_drop]
theorem Sets_l1 (h : RuleIs m t p) (K : Nat) (now out : List Int) (i : Int) (hsm : ∀ n ∈ now, smallB n = true) (hnl : now.length ≤ 10000) (hol : out.length ≤ 100) (r : List Int × Bool)
    (hbad : (10000 < (nextW m t p now).length ∨ (nextW m t p now).any (fun n => !smallB n) = true) → r = ([], false))
    (hgood : ¬ (10000 < (nextW m t p now).length ∨ (nextW m t p now).any (fun n => !smallB n) = true) → Ev (fun k => remouldref06_Sets.l0 k K (nextW m t p now) (out ++ [((nextW m t p now).length : Int)]) (wrap64 (i + 1)) m t p) r) :
    ∀ d q : Nat, q + d = now.length → (nextW m t p (now.take q)).length ≤ 10000 → (nextW m t p (now.take q)).any (fun n => !smallB n) = false →
      Ev (fun k => remouldref06_Sets.l1 k K now out i (nextW m t p (now.take q)) (q : Int) m t p) r := by
  intro d
  induction d with
  | zero =>
    intro q hq hl ha
    rw [List.take_of_length_le (by omega)] at hl ha ⊢
    have hh := hgood (by rw [ha]; rintro (h | h); omega; cases h)
    exact Ev.step (fun k => by rw [remouldref06_Sets.l1, if_neg (by omega), if_pos (by omega)]) hh
  | succ d ih =>
    intro q hq hl ha
    have ih := ih (q + 1) (by omega)
    have hmem : rd now (q : Int) ∈ now := by rw [show rd now (q : Int) = now[q]'(by omega) by simp [rd, show q < now.length by omega]]; exact List.getElem_mem _
    have hB := Back_f h (rd now (q : Int)) (hsm _ hmem)
    have hnx := nextW_take (m := m) (t := t) (p := p) now q (by omega)
    have hdr := nextW_drop (m := m) (t := t) (p := p) now (q + 1)
    rw [hnx] at ih hdr
    have hbl := backW_length (m := m) (t := t) (p := p) (rd now (q : Int))
    have htl := h.tl
    have hm6 := h.m6
    unfold backRes at hB
    have hq0 : (q : Int) < (now.length : Int) := by omega
    have hq1 : (0 : Int) ≤ (q : Int) := by omega
    have ew : wrap64 ((q : Int) + 1) = ((q + 1 : Nat) : Int) := by rw [wrap64_id _ (by omega) (by omega)]; rfl
    generalize backW m t p (rd now (q : Int)) = row at *
    cases hany : row.any (fun n => !smallB n)
    · rw [hany, if_neg (by decide)] at hB
      refine Ev.step (fun k => by rw [remouldref06_Sets.l1, if_pos hq0, if_pos hq1]) (Ev.bind hB (Ev.pos rfl (Ev.pos (show (nextW m t p (now.take q)).length + row.length < 17592186044416 by omega) (Ev.bind (Ev.of rfl) ?_))))
      by_cases hbig : ((nextW m t p (now.take q) ++ row).length : Int) > 10000
      · rw [hbad (.inl (by rw [hdr, List.length_append]; omega))]
        exact Ev.pos hbig (Ev.const _)
      · refine Ev.neg hbig ?_
        rw [ew]
        exact ih (by omega) (by rw [List.any_append, ha, hany]; rfl)
    · rw [hany, if_pos rfl] at hB
      refine Ev.step (fun k => by rw [remouldref06_Sets.l1, if_pos hq0, if_pos hq1]) (Ev.bind hB ?_)
      rw [hbad (.inr (by rw [hdr, List.any_append, List.any_append, hany]; simp))]
      exact Ev.neg (by decide) (Ev.const _)
theorem Sets_l0 (h : RuleIs m t p) (K : Nat) (hK : K ≤ 8) : ∀ d i : Nat, i + d = K → ∀ now out : List Int, (∀ n ∈ now, smallB n = true) → now.length ≤ 10000 → out.length ≤ i + 1 →
    Ev (fun k => remouldref06_Sets.l0 k K now out (i : Int) m t p) (setsRes (setsGo m t p d now out)) := by
  intro d
  induction d with
  | zero =>
    intro i hi now out hsm hnl hol
    exact Ev.step (h := fun _ => some (out, true)) (fun k => by rw [remouldref06_Sets.l0, if_neg (by omega)]) (Ev.const _)
  | succ d ih =>
    intro i hi now out hsm hnl hol
    have ew : wrap64 ((i : Int) + 1) = ((i + 1 : Nat) : Int) := by rw [wrap64_id _ (by omega) (by omega)]; rfl
    have := Sets_l1 h K now out (i : Int) hsm hnl (by omega) (setsRes (setsGo m t p (d + 1) now out)) (fun hb => by rw [setsGo, if_pos hb]; rfl) (fun hg => by
      rw [setsGo, if_neg hg, ew]
      rw [not_or] at hg
      refine ih (i + 1) (by omega) _ _ (fun n hn => ?_) (by omega) (by simp; omega)
      have ha := hg.2
      rw [Bool.not_eq_true, List.any_eq_false] at ha
      simpa using ha n hn) now.length 0 (by omega) (by simp [nextW]) (by simp [nextW])
    exact Ev.step (h := fun k => remouldref06_Sets.l1 k K now out (i : Int) [] 0 m t p) (fun k => by rw [remouldref06_Sets.l0, if_pos (by omega)]) this
theorem Sets_f (h : RuleIs m t p) (y : Int) (hy : smallB y = true) (K : Nat) (hK : K ≤ 8) : Ev (fun k => remouldref06_Sets.f k m t p y K) (setsRes (setsGo m t p K [y] [1])) :=
  Sets_l0 h K hK K 0 (by omega) [y] [1] (by simpa using hy) (by simp) (by simp)
theorem setsGo_length : ∀ (d : Nat) (now out l : List Int), setsGo m t p d now out = some l → l.length = out.length + d := by
  intro d
  induction d with
  | zero => intro now out l h; simp [setsGo] at h; subst h; rfl
  | succ d ih =>
    intro now out l h
    rw [setsGo] at h
    split at h
    · cases h
    · have := ih _ _ _ h
      rw [this]
      simp
      omega
theorem pureSets (a0 : Int) (t p : List Int) (n steps : Int) : ∃ k, remouldlaw06_WheelSets.f k a0 t p n steps = some true := by
  apply Ev.get
  unfold remouldlaw06_WheelSets.f
  refine Ev.bind (Ev.of (rule_f a0 t p)) ?_
  generalize t.take 7 = T
  generalize p.take 7 = P
  show Ev (fun k => ((wheel_Sets.f a0 T P n steps).bind _)) true
  have hbad : Ev (fun k => remouldlaw06_WheelSets.j0 k n steps ([] : List Int) 2 true a0 T P) true :=
    Ev.step (fun k => by rw [remouldlaw06_WheelSets.j0, if_pos rfl, if_pos (by rfl), if_pos rfl]) awake_t
  cases hR : ruleB a0 T P
  · refine Ev.bind (Ev.of (show wheel_Sets.f a0 T P n steps = some ([], 2) by rw [wheel_Sets.f, hR]; rfl)) (Ev.bind (Rule_f a0 T P) ?_)
    rw [hR]
    exact Ev.neg (by decide) hbad
  cases hn : smallB n
  · refine Ev.bind (Ev.of (show wheel_Sets.f a0 T P n steps = some ([], 2) by rw [wheel_Sets.f, hR, hn]; rfl)) (Ev.bind (Rule_f a0 T P) ?_)
    rw [hR]
    refine Ev.pos rfl (Ev.bind (Ev.of (large_f n)) ?_)
    rw [hn]
    exact Ev.pos rfl hbad
  cases hs : inB steps 0 8
  · refine Ev.bind (Ev.of (show wheel_Sets.f a0 T P n steps = some ([], 2) by rw [wheel_Sets.f, hR, hn, hs]; rfl)) (Ev.bind (Rule_f a0 T P) ?_)
    rw [hR]
    refine Ev.pos rfl (Ev.bind (Ev.of (large_f n)) ?_)
    rw [hn]
    refine Ev.neg (by decide) ?_
    have hs' : ¬ (0 ≤ steps ∧ steps ≤ 8) := by intro h; rw [show inB steps 0 8 = true by simp [inB, h.1, h.2]] at hs; cases hs
    by_cases h1 : steps < 0
    · exact Ev.pos h1 hbad
    · refine Ev.neg h1 ?_
      rw [decide_eq_true (by omega)]
      exact hbad
  have hs' : 0 ≤ steps ∧ steps ≤ 8 := by simpa [inB] using hs
  have hRI := ruleB_is hR
  obtain ⟨K, rfl⟩ : ∃ K : Nat, steps = (K : Int) := ⟨steps.toNat, by omega⟩
  have hO := Sets_f hRI n hn K (by omega)
  have hW : wheel_Sets.f a0 T P n K = some (match setsGo a0 T P K [n] [1] with | some l => (l, 0) | none => ([], 5)) := by
    unfold wheel_Sets.f
    rw [hR, hn, hs]
    rfl
  have hend : ∀ (l : List Int) (e : Int), wheel_Sets.f a0 T P n K = some (l, e) → Ev (fun k => (remouldref06_Sets.f k a0 T P n K).bind fun bt427 => (if bt427.2 = true then ((remouldlaw06_ints.f k l bt427.1).bind fun t431 => (if t431 = true then (if e = 0 then ((remouldlaw06_awake.f k).bind fun t432 => (some t432)) else (some false)) else (some false))) else (if (l.length : Int) = 0 then (if e = 5 then ((remouldlaw06_awake.f k).bind fun t433 => (some t433)) else (some false)) else (some false)))) true → Ev (fun k => (wheel_Sets.f a0 T P n K).bind fun bt420 => ((remouldref06_Rule.f k a0 T P).bind fun t424 => (if t424 = true then ((remouldref06_Large.f n).bind fun t425 => (if t425 = true then (remouldlaw06_WheelSets.j0 k n K bt420.1 bt420.2 true a0 T P) else (if (K : Int) < 0 then (remouldlaw06_WheelSets.j0 k n K bt420.1 bt420.2 true a0 T P) else (remouldlaw06_WheelSets.j0 k n K bt420.1 bt420.2 (decide ((K : Int) > 8)) a0 T P)))) else (remouldlaw06_WheelSets.j0 k n K bt420.1 bt420.2 true a0 T P)))) true := by
    intro l e he hh
    refine Ev.bind (Ev.of he) (Ev.bind (Rule_f a0 T P) ?_)
    rw [hR]
    refine Ev.pos rfl (Ev.bind (Ev.of (large_f n)) ?_)
    rw [hn]
    refine Ev.neg (by decide) (Ev.neg (by omega) ?_)
    rw [decide_eq_false (by omega)]
    exact Ev.step (fun k => by rw [remouldlaw06_WheelSets.j0, if_neg (by decide)]) hh
  cases ho : setsGo a0 T P K [n] [1] with
  | none =>
    rw [ho] at hO hW
    exact hend _ _ hW (Ev.bind hO (Ev.neg (by decide) (Ev.pos rfl (Ev.pos rfl awake_t))))
  | some l =>
    rw [ho] at hO hW
    have hl : l.length ≤ 1000000 := by rw [setsGo_length _ _ _ _ ho]; simp; omega
    refine hend _ _ hW (Ev.bind hO (Ev.pos rfl (Ev.bind (ints_f l l hl) ?_)))
    exact Ev.pos (by simp) (Ev.pos rfl awake_t)
end Go.Proofs.Ytkjojcepombhpaa.L
