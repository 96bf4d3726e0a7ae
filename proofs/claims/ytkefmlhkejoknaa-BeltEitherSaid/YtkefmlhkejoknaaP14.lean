import Derived.Test.YtkefmlhkejoknaaXCycle
import Derived.Test.YtkefmlhkejoknaaP9

/- Plain law: what Cycle asks; the program's question and the reference's. -/
namespace Go.Proofs.Ytkefmlhkejoknaa.L
set_option linter.unusedVariables false
set_option linter.unusedSimpArgs false
open Go.RowKit Go.Proofs.YtkefmlhkejoknaaW.PrintWords Go.Proofs.YtkefmlhkejoknaaW.PrintLast Go.Proofs.YtkefmlhkejoknaaW.PrintMore

theorem edgeAt_lt (l : List S49) (a b : Int) : edgeAt l a b < l.length ∧ -1 ≤ edgeAt l a b := by
  unfold edgeAt
  cases h : l.findIdx? (edgeIs a b) with
  | none => simp; omega
  | some i =>
    have := List.findIdx?_eq_some_iff_findIdx_eq.1 h
    simp only
    omega
theorem edgeAt_joined (l : List S49) (a b : Int) : 0 ≤ edgeAt l a b ↔ joinedB l a b = true := by
  unfold edgeAt
  cases h : l.findIdx? (edgeIs a b) with
  | none =>
    rw [List.findIdx?_eq_none_iff] at h
    constructor
    · intro h1; simp at h1
    · intro h1
      unfold joinedB hasEdge at h1
      rw [List.any_eq_true] at h1
      obtain ⟨x, hx, hp⟩ := h1
      have := h x hx
      unfold edgeIs at this
      rw [this] at hp; cases hp
  | some i =>
    have h1 := List.findIdx?_eq_some_iff_findIdx_eq.1 h
    constructor
    · intro _
      unfold joinedB hasEdge
      rw [List.any_eq_true]
      have hlt : i < l.length := h1.1
      have := (List.findIdx_eq hlt).1 h1.2
      exact ⟨l[i], List.getElem_mem hlt, this.1⟩
    · intro _; simp
/-- What Cycle asks of the first i vertices. -/
def CycTo (l : List S49) (c : List Int) (i : Nat) : Prop := ∀ j, j < i → joinedB l (rd c (j : Int)) (rd c (((j + 1) % c.length : Nat) : Int)) = true ∧ (0 < j → rd c 0 < rd c (j : Int)) ∧ rd c (j : Int) ∉ c.take j
theorem cyR_iff (l : List S49) (c : List Int) (i : Nat) : (∃ s, cyR l c i = some s) ↔ CycTo l c i := by
  induction i with
  | zero => exact ⟨fun _ j hj => by omega, fun _ => ⟨0, rfl⟩⟩
  | succ i ih =>
    rw [cyR]
    cases h : cyR l c i with
    | none =>
      have hno : ¬ CycTo l c i := fun hc => by
        obtain ⟨s, hs⟩ := ih.2 hc
        rw [h] at hs; cases hs
      refine ⟨fun h1 => ?_, fun hc => absurd (fun j hj => hc j (by omega)) hno⟩
      obtain ⟨s, hs⟩ := h1
      cases hs
    | some s =>
      have hyes : CycTo l c i := ih.1 ⟨s, h⟩
      have hj := edgeAt_joined l (rd c (i : Int)) (rd c (((i + 1) % c.length : Nat) : Int))
      simp only
      split
      · rename_i hb
        refine ⟨fun ⟨s, hs⟩ => (by cases hs), fun hc => ?_⟩
        obtain ⟨x, y, z⟩ := hc i (by omega)
        rcases hb with hb | ⟨hb, hb2⟩ | hb
        · have := hj.2 x; omega
        · have := y hb; omega
        · exact absurd (by simpa using hb) z
      · rename_i hb
        refine ⟨fun _ j hj' => ?_, fun _ => ⟨_, rfl⟩⟩
        by_cases e : j = i
        · subst e
          refine ⟨hj.1 ?_, fun h0 => ?_, fun hm => hb (.inr (.inr (by simpa using hm)))⟩
          · rcases Int.lt_or_le (edgeAt l (rd c (j : Int)) (rd c (((j + 1) % c.length : Nat) : Int))) 0 with hh | hh
            · exact absurd (.inl hh) hb
            · exact hh
          · rcases Int.lt_or_le (rd c 0) (rd c (j : Int)) with hh | hh
            · exact hh
            · exact absurd (.inr (.inl ⟨h0, hh⟩)) hb
        · exact hyes j (by omega)
/-- A list is written as an odd cycle. -/
def CycIs (l : List S49) (c : List Int) : Prop := 3 ≤ c.length ∧ c.length % 2 = 1 ∧ rd c 1 < rd c ((c.length - 1 : Nat) : Int) ∧ CycTo l c c.length
theorem cycle_yes {l : List S49} {c : List Int} (hl : l.length ≤ 41) (hc : c.length ≤ 1000) (h : CycIs l c) : ∃ s, cyR l c c.length = some s ∧ remouldref05_Cycle.f l c = some ((s : Int), true) := by
  obtain ⟨h1, h2, h3, h4⟩ := h
  obtain ⟨s, hs⟩ := (cyR_iff l c c.length).2 h4
  refine ⟨s, hs, ?_⟩
  rw [remouldref05_Cycle.f, if_pos ⟨hl, hc⟩, if_neg (by omega), hs]
  rfl
theorem cycle_no {l : List S49} {c : List Int} (hl : l.length ≤ 41) (hc : c.length ≤ 1000) (h : ¬ CycIs l c) : remouldref05_Cycle.f l c = some (0, false) := by
  rw [remouldref05_Cycle.f, if_pos ⟨hl, hc⟩]
  by_cases hb : c.length < 3 ∨ c.length % 2 = 0 ∨ rd c 1 ≥ rd c ((c.length - 1 : Nat) : Int)
  · rw [if_pos hb]
  · rw [if_neg hb]
    cases hs : cyR l c c.length with
    | none => rfl
    | some s => exact absurd ⟨by omega, by omega, by omega, (cyR_iff l c c.length).1 ⟨s, hs⟩⟩ h
theorem rd_getD (c : List Int) (i : Nat) : rd c (i : Int) = c.getD i 0 := by simp [rd, List.getD_eq_getElem?_getD]
theorem getLast_getD (c : List Int) : c.getLastD 0 = c.getD (c.length - 1) 0 := by
  rw [List.getLastD_eq_getLast?, List.getLast?_eq_getElem?, List.getD_eq_getElem?_getD]
theorem isCycle_iff {n : Int} {l : List S49} (hU : UpIn n l) (c : List Int) : isCycleB n l c = true ↔ CycIs l c := by
  have hends : ∀ i : Nat, joinedB l (rd c (i : Int)) (rd c (((i + 1) % c.length : Nat) : Int)) = hasEdge l ((fun i => let v := c.getD i 0; let w := c.getD ((i + 1) % c.length) 0; (if v ≤ w then v else w, if v ≤ w then w else v)) i).1 ((fun i => let v := c.getD i 0; let w := c.getD ((i + 1) % c.length) 0; (if v ≤ w then v else w, if v ≤ w then w else v)) i).2 := by
    intro i
    rw [rd_getD, rd_getD]; rfl
  unfold isCycleB CycIs CycTo
  rw [Bool.and_eq_true, Bool.and_eq_true, Bool.and_eq_true, Bool.and_eq_true, decide_eq_true_eq, decide_eq_true_eq, decide_eq_true_eq, List.all_eq_true, List.all_eq_true, getLast_getD]
  constructor
  · rintro ⟨⟨⟨⟨h1, h2⟩, h3⟩, h4⟩, h5⟩
    have hall : ∀ j, j < c.length → joinedB l (rd c (j : Int)) (rd c (((j + 1) % c.length : Nat) : Int)) = true ∧ (0 < j → rd c 0 < rd c (j : Int)) ∧ rd c (j : Int) ∉ c.take j := by
      intro j hj
      have a := h4 j (by simpa using hj)
      simp only [Bool.and_eq_true, decide_eq_true_eq, Bool.not_eq_true', Bool.and_eq_false_iff, decide_eq_false_iff_not] at a
      refine ⟨?_, fun h0 => ?_, ?_⟩
      · rw [hends]
        apply h5
        unfold endsB
        rw [List.mem_map]
        exact ⟨j, by simpa using hj, rfl⟩
      · rw [rd_getD, show rd c 0 = c.getD 0 0 from rd_getD c 0]
        rcases a.1.2 with b | b
        · exact absurd h0 b
        · omega
      · rw [rd_getD]
        intro hm
        have := a.2
        rw [Bool.eq_false_iff] at this
        exact this (by simpa using hm)
    refine ⟨h1, h2, ?_, hall⟩
    rw [show rd c 1 = c.getD 1 0 from rd_getD c 1, rd_getD]
    have hne : c.getD 1 0 ≠ c.getD (c.length - 1) 0 := by
      intro e
      have := (hall (c.length - 1) (by omega)).2.2
      rw [rd_getD, ← e] at this
      apply this
      rw [List.mem_take_iff_getElem]
      refine ⟨1, by omega, ?_⟩
      rw [List.getD_eq_getElem?_getD, List.getElem?_eq_getElem (by omega)]
      rfl
    omega
  · rintro ⟨h1, h2, h3, h4⟩
    refine ⟨⟨⟨⟨h1, h2⟩, ?_⟩, fun i hi => ?_⟩, fun p hp => ?_⟩
    · rw [show rd c 1 = c.getD 1 0 from rd_getD c 1, rd_getD] at h3
      omega
    · have hi' : i < c.length := by simpa using hi
      obtain ⟨a, b, d⟩ := h4 i hi'
      have hb := JB_in hU _ _ a
      rw [rd_getD] at hb b d
      rw [show rd c 0 = c.getD 0 0 from rd_getD c 0] at b
      simp only [Bool.and_eq_true, decide_eq_true_eq, Bool.not_eq_true', Bool.and_eq_false_iff, decide_eq_false_iff_not]
      refine ⟨⟨⟨hb.1, by omega⟩, ?_⟩, ?_⟩
      · by_cases h0 : 0 < i
        · exact .inr (by have := b h0; omega)
        · exact .inl h0
      · rw [Bool.eq_false_iff]; intro hm; exact d (by simpa using hm)
    · unfold endsB at hp
      rw [List.mem_map] at hp
      obtain ⟨i, hi, rfl⟩ := hp
      rw [← hends]
      exact (h4 i (by simpa using hi)).1
/-- A way on distinct vertices, its first one the smallest. -/
def PathIs (l : List S49) (p : List Int) : Prop := p ≠ [] ∧ ∀ j, j < p.length → (j + 1 < p.length → joinedB l (rd p (j : Int)) (rd p ((j + 1 : Nat) : Int)) = true) ∧ (0 < j → rd p 0 < rd p (j : Int)) ∧ rd p (j : Int) ∉ p.take j
theorem rd_snoc (p : List Int) (v : Int) (j : Nat) (hj : j < p.length) : rd (p ++ [v]) (j : Int) = rd p (j : Int) := by
  rw [rd_getD, rd_getD, List.getD_eq_getElem?_getD, List.getD_eq_getElem?_getD, List.getElem?_append_left hj]
theorem rd_last (p : List Int) (v : Int) : rd (p ++ [v]) (p.length : Int) = v := by
  rw [rd_getD, List.getD_eq_getElem?_getD]; simp
theorem PathIs.one (l : List S49) (v : Int) : PathIs l [v] := ⟨by simp, fun j hj => by
  obtain rfl : j = 0 := by simp at hj; exact hj
  exact ⟨fun h => by simp at h, fun h => by omega, by simp⟩⟩
theorem PathIs.snoc {l : List S49} {p : List Int} (h : PathIs l p) {v : Int} (hJ : joinedB l (rd p ((p.length - 1 : Nat) : Int)) v = true) (h0 : rd p 0 < v) (hf : v ∉ p) : PathIs l (p ++ [v]) := by
  obtain ⟨hne, hp⟩ := h
  have hpos : 0 < p.length := List.length_pos_iff.2 hne
  refine ⟨by simp, fun j hj => ?_⟩
  have h00 : rd (p ++ [v]) 0 = rd p 0 := rd_snoc p v 0 hpos
  rw [h00]
  by_cases e : j = p.length
  · subst e
    refine ⟨fun h => by simp at h, fun _ => by rw [rd_last]; exact h0, ?_⟩
    rw [rd_last, List.take_left']
    · exact hf
    · rfl
  · have hj' : j < p.length := by simp at hj; omega
    obtain ⟨a, b, c⟩ := hp j hj'
    refine ⟨fun _ => ?_, fun hh => by rw [rd_snoc p v j hj']; exact b hh, ?_⟩
    · rw [rd_snoc p v j hj']
      by_cases e2 : j + 1 = p.length
      · rw [e2, rd_last]
        rw [show p.length - 1 = j by omega] at hJ
        exact hJ
      · rw [rd_snoc p v (j + 1) (by omega)]
        exact a (by omega)
    · rw [rd_snoc p v j hj', List.take_append_of_le_length (by omega)]
      exact c
/-- The leaf: the reference's question and the program's. -/
theorem leaf_iff {l : List S49} {p : List Int} (h : PathIs l p) (h3 : 3 ≤ p.length) (hodd : p.length % 2 = 1) : CycIs l p ↔ ¬ (rd p 1 > rd p ((p.length - 1 : Nat) : Int) ∨ joinedB l (rd p 0) (rd p ((p.length - 1 : Nat) : Int)) = false) := by
  obtain ⟨hne, hp⟩ := h
  have hmod : ∀ j, j < p.length → (j + 1) % p.length = if j + 1 = p.length then 0 else j + 1 := fun j hj => by
    split
    · rename_i e; rw [e, Nat.mod_self]
    · exact Nat.mod_eq_of_lt (by omega)
  have hne1 : rd p 1 ≠ rd p ((p.length - 1 : Nat) : Int) := by
    intro e
    have := (hp (p.length - 1) (by omega)).2.2
    rw [← e] at this
    apply this
    rw [List.mem_take_iff_getElem]
    refine ⟨1, by omega, ?_⟩
    rw [show rd p 1 = p.getD 1 0 from rd_getD p 1, List.getD_eq_getElem?_getD, List.getElem?_eq_getElem (by omega)]
    rfl
  constructor
  · rintro ⟨_, _, h1, h4⟩ hb
    rcases hb with hb | hb
    · omega
    · have := (h4 (p.length - 1) (by omega)).1
      rw [hmod _ (by omega), if_pos (by omega)] at this
      have := JB_symm l _ _ this
      rw [show ((0 : Nat) : Int) = 0 from rfl] at this
      unfold JB at this
      rw [hb] at this; cases this
  · intro hb
    refine ⟨h3, hodd, ?_, fun j hj => ?_⟩
    · rcases Int.lt_or_le (rd p 1) (rd p ((p.length - 1 : Nat) : Int)) with h | h
      · exact h
      · exact absurd (.inl (by omega)) hb
    · obtain ⟨a, b, c⟩ := hp j hj
      refine ⟨?_, b, c⟩
      rw [hmod j hj]
      split
      · have e : j = p.length - 1 := by omega
        subst e
        have : JB l (rd p 0) (rd p ((p.length - 1 : Nat) : Int)) := by
          unfold JB
          cases hh : joinedB l (rd p 0) (rd p ((p.length - 1 : Nat) : Int))
          · exact absurd (.inr hh) hb
          · rfl
        exact JB_symm l _ _ this
      · exact a (by omega)

end Go.Proofs.Ytkefmlhkejoknaa.L

/- Plain law: the edges of cycles as digits. -/
namespace Go.Proofs.Ytkefmlhkejoknaa.L
set_option linter.unusedVariables false
set_option linter.unusedSimpArgs false
open Go.RowKit Go.Proofs.YtkefmlhkejoknaaW.PrintWords Go.Proofs.YtkefmlhkejoknaaW.PrintLast Go.Proofs.YtkefmlhkejoknaaW.PrintMore

theorem add_bit (k : Nat) : ∀ s : Nat, s.testBit k = false → s + 2 ^ k = s ||| 2 ^ k := by
  induction k with
  | zero =>
    intro s h
    rw [Nat.testBit_zero] at h
    have h2 : s % 2 = 0 := by simpa using h
    have := Nat.two_pow_add_eq_or_of_lt (show 1 < 2 ^ 1 by decide) (s / 2)
    rw [show 2 ^ 1 * (s / 2) = s by omega] at this
    simpa using this
  | succ k ih =>
    intro s h
    rw [Nat.testBit_succ] at h
    have h1 := ih (s / 2) h
    have e1 : s + 2 ^ (k + 1) = 2 ^ 1 * (s / 2 + 2 ^ k) + s % 2 := by rw [Nat.pow_succ]; omega
    have hm : s % 2 < 2 ^ 1 := by omega
    rw [e1, Nat.two_pow_add_eq_or_of_lt hm, h1]
    apply Nat.eq_of_testBit_eq
    intro i
    rw [Nat.testBit_or, Nat.testBit_or, Nat.testBit_two_pow]
    cases i with
    | zero => simp [Nat.testBit_zero]
    | succ i =>
      have a : (2 ^ 1 * (s / 2 ||| 2 ^ k)).testBit (i + 1) = (s / 2 ||| 2 ^ k).testBit i := by
        rw [Nat.testBit_succ]; congr 1; omega
      have b : (s % 2).testBit (i + 1) = false := Nat.testBit_lt_two_pow (by have := Nat.two_pow_pos i; rw [Nat.pow_succ]; omega)
      rw [a, b, Nat.testBit_or, Nat.testBit_two_pow, Bool.or_false, Nat.testBit_succ]
      congr 1
      simp
/-- The place of a pair. -/
def posOf (l : List S49) (p : Int × Int) : Nat := (l.findIdx? fun e => e.f0 == p.1 && e.f1 == p.2).getD l.length
theorem posOf_some {l : List S49} {p : Int × Int} (h : hasEdge l p.1 p.2 = true) : ∃ hlt : posOf l p < l.length, l[posOf l p].f0 = p.1 ∧ l[posOf l p].f1 = p.2 := by
  unfold posOf
  cases hf : l.findIdx? (fun e => e.f0 == p.1 && e.f1 == p.2) with
  | none =>
    rw [List.findIdx?_eq_none_iff] at hf
    unfold hasEdge at h
    rw [List.any_eq_true] at h
    obtain ⟨x, hx, hp⟩ := h
    rw [hf x hx] at hp; cases hp
  | some i =>
    have h1 := List.findIdx?_eq_some_iff_findIdx_eq.1 hf
    have hlt : i < l.length := h1.1
    have := ((List.findIdx_eq hlt).1 h1.2).1
    simp only [Bool.and_eq_true, beq_iff_eq] at this
    exact ⟨hlt, this⟩
theorem posOf_inj {l : List S49} {p q : Int × Int} (hp : hasEdge l p.1 p.2 = true) (hq : hasEdge l q.1 q.2 = true) (h : posOf l p = posOf l q) : p = q := by
  obtain ⟨a, a0, a1⟩ := posOf_some hp
  obtain ⟨b, b0, b1⟩ := posOf_some hq
  simp only [h] at a0 a1
  exact Prod.ext (a0.symm.trans b0) (a1.symm.trans b1)
/-- The end of an edge of a cycle. -/
def endAt (c : List Int) (i : Nat) : Int × Int :=
  let v := c.getD i 0; let w := c.getD ((i + 1) % c.length) 0; (if v ≤ w then v else w, if v ≤ w then w else v)
theorem endsB_eq (c : List Int) : endsB c = (List.range c.length).map (endAt c) := rfl
theorem edge_pos (l : List S49) (c : List Int) (i : Nat) (h : joinedB l (rd c (i : Int)) (rd c (((i + 1) % c.length : Nat) : Int)) = true) :
    hasEdge l (endAt c i).1 (endAt c i).2 = true ∧ (edgeAt l (rd c (i : Int)) (rd c (((i + 1) % c.length : Nat) : Int))).toNat = posOf l (endAt c i) := by
  have h1 : hasEdge l (endAt c i).1 (endAt c i).2 = true := by
    rw [rd_getD, rd_getD] at h; exact h
  refine ⟨h1, ?_⟩
  have h2 := (edgeAt_joined l _ _).2 h
  rw [rd_getD, rd_getD] at h2 ⊢
  unfold edgeAt at h2 ⊢
  unfold posOf
  have e : edgeIs (c.getD i 0) (c.getD ((i + 1) % c.length) 0) = fun e : S49 => e.f0 == (endAt c i).1 && e.f1 == (endAt c i).2 := rfl
  rw [e] at h2 ⊢
  cases hf : l.findIdx? (fun e : S49 => e.f0 == (endAt c i).1 && e.f1 == (endAt c i).2) with
  | none => rw [hf] at h2; simp at h2
  | some j => simp
/-- Different places of a cycle have different edges. -/
theorem ends_ne {c : List Int} (h3 : 3 ≤ c.length) (hd : ∀ j, j < c.length → rd c (j : Int) ∉ c.take j) (i j : Nat) (hij : i < j) (hj : j < c.length) : endAt c i ≠ endAt c j := by
  have hne : ∀ a b, a < b → b < c.length → c.getD a 0 ≠ c.getD b 0 := fun a b hab hb e => by
    have := hd b hb
    rw [rd_getD, ← e] at this
    apply this
    rw [List.mem_take_iff_getElem]
    refine ⟨a, by omega, ?_⟩
    rw [List.getD_eq_getElem?_getD, List.getElem?_eq_getElem (by omega)]
    rfl
  have hne' : ∀ a b, a ≠ b → a < c.length → b < c.length → c.getD a 0 ≠ c.getD b 0 := fun a b hab ha hb e => by
    rcases Nat.lt_or_gt_of_ne hab with h | h
    · exact hne a b h hb e
    · exact hne b a h ha e.symm
  intro e
  unfold endAt at e
  simp only [Prod.mk.injEq] at e
  have hi1 : (i + 1) % c.length = i + 1 := Nat.mod_eq_of_lt (by omega)
  rw [hi1] at e
  by_cases hl : j + 1 = c.length
  · have hj1 : (j + 1) % c.length = 0 := by rw [hl, Nat.mod_self]
    rw [hj1] at e
    have x1 := hne' i j (by omega) (by omega) (by omega)
    have x3 : i + 1 ≠ 0 → c.getD (i + 1) 0 ≠ c.getD 0 0 := fun h => hne' (i + 1) 0 h (by omega) (by omega)
    have x3' := x3 (by omega)
    by_cases hi0 : i = 0
    · subst hi0
      have x4 := hne' 1 j (by omega) (by omega) (by omega)
      rw [Nat.zero_add] at e
      revert e; split <;> split <;> intro e <;> omega
    · have x5 := hne' i 0 hi0 (by omega) (by omega)
      revert e; split <;> split <;> intro e <;> omega
  · have hj1 : (j + 1) % c.length = j + 1 := Nat.mod_eq_of_lt (by omega)
    rw [hj1] at e
    have x1 := hne' i j (by omega) (by omega) (by omega)
    have x2 := hne' i (j + 1) (by omega) (by omega) (by omega)
    revert e; split <;> split <;> intro e <;> omega
/-- The edges as digits. -/
def maskOf (l : List S49) : List (Int × Int) → Nat
  | [] => 0
  | p :: ps => maskOf l ps ||| 2 ^ posOf l p
theorem mask_test (l : List S49) (ps : List (Int × Int)) (j : Nat) : (maskOf l ps).testBit j = ps.any fun p => posOf l p == j := by
  induction ps with
  | nil => simp [maskOf]
  | cons p ps ih => rw [maskOf, Nat.testBit_or, ih, Nat.testBit_two_pow, List.any_cons, Bool.or_comm]; rfl
theorem mask_append (l : List S49) (a b : List (Int × Int)) : maskOf l (a ++ b) = maskOf l a ||| maskOf l b := by
  apply Nat.eq_of_testBit_eq; intro j
  rw [Nat.testBit_or, mask_test, mask_test, mask_test, List.any_append]
theorem mask_lt (l : List S49) (ps : List (Int × Int)) (h : ∀ p ∈ ps, hasEdge l p.1 p.2 = true) : maskOf l ps < 2 ^ l.length := by
  induction ps with
  | nil => exact Nat.two_pow_pos _
  | cons p ps ih =>
    rw [maskOf]
    obtain ⟨hlt, _⟩ := posOf_some (h p List.mem_cons_self)
    exact Nat.or_lt_two_pow (ih fun q hq => h q (List.mem_cons_of_mem _ hq)) (Nat.pow_lt_pow_right (by omega) hlt)
/-- Cycle's number is the mask of its edges. -/
theorem cyR_mask {l : List S49} {c : List Int} (h : CycIs l c) : ∀ i, i ≤ c.length → cyR l c i = some (maskOf l ((List.range i).map (endAt c))) := by
  obtain ⟨h3, _, _, h4⟩ := h
  intro i
  induction i with
  | zero => intro _; rfl
  | succ i ih =>
    intro hi
    obtain ⟨s, hs⟩ := (cyR_iff l c (i + 1)).2 (fun j hj => h4 j (by omega))
    have ih' := ih (by omega)
    rw [cyR, ih'] at hs ⊢
    simp only at hs ⊢
    split at hs
    · cases hs
    · rename_i hb
      rw [if_neg hb]
      obtain ⟨e1, e2⟩ := edge_pos l c i (h4 i (by omega)).1
      rw [e2, List.range_succ, List.map_append, mask_append]
      congr 1
      show _ = _ ||| (0 ||| 2 ^ posOf l (endAt c i))
      rw [Nat.zero_or]
      apply add_bit
      rw [mask_test, Bool.eq_false_iff]
      intro hm
      rw [List.any_eq_true] at hm
      obtain ⟨p, hp, he⟩ := hm
      rw [List.mem_map] at hp
      obtain ⟨j, hj, rfl⟩ := hp
      have hj' : j < i := by simpa using hj
      exact ends_ne h3 (fun j hj => (h4 j hj).2.2) j i hj' (by omega) (posOf_inj (edge_pos l c j (h4 j (by omega)).1).1 e1 (eq_of_beq he))
/-- The ends are free exactly if the masks have no digit in common. -/
theorem freeB_iff (used ps : List (Int × Int)) (hd : ps.Nodup) : freeB used ps = true ↔ ∀ p ∈ ps, p ∉ used := by
  induction ps generalizing used with
  | nil => simp [freeB]
  | cons p ps ih =>
    rw [List.nodup_cons] at hd
    rw [freeB, Bool.and_eq_true, ih _ hd.2]
    constructor
    · rintro ⟨a, b⟩ q hq
      rw [List.mem_cons] at hq
      rcases hq with rfl | hq
      · simpa using a
      · intro hu; exact b q hq (List.mem_cons_of_mem _ hu)
    · intro h
      refine ⟨by have := h p List.mem_cons_self; simpa using this, fun q hq hm => ?_⟩
      rw [List.mem_cons] at hm
      rcases hm with rfl | hm
      · exact hd.1 hq
      · exact h q (List.mem_cons_of_mem _ hq) hm
theorem ends_nodup {l : List S49} {c : List Int} (h : CycIs l c) : (endsB c).Nodup := by
  rw [endsB_eq, List.Nodup, List.pairwise_map]
  refine List.Pairwise.imp_of_mem ?_ (List.pairwise_lt_range)
  intro a b ha hb hab
  exact ends_ne h.1 (fun j hj => (h.2.2.2 j hj).2.2) a b hab (by simpa using hb)
theorem ends_in {l : List S49} {c : List Int} (h : CycIs l c) : ∀ p ∈ endsB c, hasEdge l p.1 p.2 = true := by
  intro p hp
  rw [endsB_eq, List.mem_map] at hp
  obtain ⟨i, hi, rfl⟩ := hp
  exact (edge_pos l c i (h.2.2.2 i (by simpa using hi)).1).1
theorem free_mask {l : List S49} {c : List Int} (h : CycIs l c) (used : List (Int × Int)) (hu : ∀ p ∈ used, hasEdge l p.1 p.2 = true) : freeB used (endsB c) = true ↔ maskOf l used &&& maskOf l (endsB c) = 0 := by
  rw [freeB_iff used _ (ends_nodup h)]
  constructor
  · intro hf
    apply Nat.eq_of_testBit_eq; intro j
    rw [Nat.testBit_and, Nat.zero_testBit, mask_test, mask_test, Bool.eq_false_iff]
    intro hb
    rw [Bool.and_eq_true, List.any_eq_true, List.any_eq_true] at hb
    obtain ⟨⟨p, hp, hp2⟩, ⟨q, hq, hq2⟩⟩ := hb
    have := posOf_inj (hu p hp) (ends_in h q hq) ((eq_of_beq hp2).trans (eq_of_beq hq2).symm)
    subst this
    exact hf p hq hp
  · intro h0 p hp hm
    have : (maskOf l used &&& maskOf l (endsB c)).testBit (posOf l p) = true := by
      rw [Nat.testBit_and, mask_test, mask_test, Bool.and_eq_true, List.any_eq_true, List.any_eq_true]
      exact ⟨⟨p, hm, by simp⟩, ⟨p, hp, by simp⟩⟩
    rw [h0, Nat.zero_testBit] at this; cases this
/-- Masks without a common digit add up to both. -/
theorem add_or (a b : Nat) : ∀ n, a < 2 ^ n → b < 2 ^ n → a &&& b = 0 → a + b = a ||| b := by
  intro n
  induction n generalizing a b with
  | zero => intro ha hb _; simp at ha hb; subst ha; subst hb; rfl
  | succ n ih =>
    intro ha hb h
    rw [Nat.pow_succ] at ha hb
    have h0 : (a / 2) &&& (b / 2) = 0 := by
      apply Nat.eq_of_testBit_eq; intro i
      have : (a &&& b).testBit (i + 1) = false := by rw [h, Nat.zero_testBit]
      rw [Nat.testBit_and, Nat.testBit_succ, Nat.testBit_succ] at this
      rw [Nat.testBit_and, Nat.zero_testBit, this]
    have h1 := ih (a / 2) (b / 2) (by omega) (by omega) h0
    have h2 : ¬ (a % 2 = 1 ∧ b % 2 = 1) := by
      intro ⟨x, y⟩
      have : (a &&& b).testBit 0 = false := by rw [h, Nat.zero_testBit]
      rw [Nat.testBit_and, Nat.testBit_zero, Nat.testBit_zero, x, y] at this
      cases this
    apply Nat.eq_of_testBit_eq; intro i
    cases i with
    | zero =>
      rw [Nat.testBit_or, Nat.testBit_zero, Nat.testBit_zero, Nat.testBit_zero]
      have h5 : (a + b) % 2 = 1 ↔ (a % 2 = 1 ∨ b % 2 = 1) := by omega
      by_cases x : a % 2 = 1 <;> by_cases y : b % 2 = 1 <;> simp [h5, x, y]
    | succ i =>
      rw [Nat.testBit_or, Nat.testBit_succ, Nat.testBit_succ, Nat.testBit_succ, show (a + b) / 2 = a / 2 + b / 2 by omega, h1, Nat.testBit_or]

end Go.Proofs.Ytkefmlhkejoknaa.L
