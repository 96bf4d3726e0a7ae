/- Plain law: what Cycle asks; the program's question and the reference's. -/
import Derived.Test.YtkefmlhkejoknaaXCycle
import Derived.Test.YtkefmlhkejoknaaP9
namespace Go.Proofs.Ytkefmlhkejoknaa.L
set_option linter.unusedVariables false
set_option linter.unusedSimpArgs false
open Go.RowKit Go.Proofs.YtkefmlhkejoknaaW.PrintWords Go.Proofs.YtkefmlhkejoknaaW.PrintLast Go.Proofs.YtkefmlhkejoknaaW.PrintMore

theorem edgeAt_lt (l : List S49) (a b : Int) : edgeAt l a b < l.length ∧ -1 ≤ edgeAt l a b := by
  unfold edgeAt
  cases h : l.findIdx? (edgeIs a b) with
  | none => simp; omega
  | some i =>
    have := List.findIdx?_eq_some_iff_findIdx_eq.1 h
    simp only
    omega
theorem edgeAt_joined (l : List S49) (a b : Int) : 0 ≤ edgeAt l a b ↔ joinedB l a b = true := by
  unfold edgeAt
  cases h : l.findIdx? (edgeIs a b) with
  | none =>
    rw [List.findIdx?_eq_none_iff] at h
    constructor
    · intro h1; simp at h1
    · intro h1
      unfold joinedB hasEdge at h1
      rw [List.any_eq_true] at h1
      obtain ⟨x, hx, hp⟩ := h1
      have := h x hx
      unfold edgeIs at this
      rw [this] at hp; cases hp
  | some i =>
    have h1 := List.findIdx?_eq_some_iff_findIdx_eq.1 h
    constructor
    · intro _
      unfold joinedB hasEdge
      rw [List.any_eq_true]
      have hlt : i < l.length := h1.1
      have := (List.findIdx_eq hlt).1 h1.2
      exact ⟨l[i], List.getElem_mem hlt, this.1⟩
    · intro _; simp
/-- What Cycle asks of the first i vertices. -/
def CycTo (l : List S49) (c : List Int) (i : Nat) : Prop := ∀ j, j < i → joinedB l (rd c (j : Int)) (rd c (((j + 1) % c.length : Nat) : Int)) = true ∧ (0 < j → rd c 0 < rd c (j : Int)) ∧ rd c (j : Int) ∉ c.take j
theorem cyR_iff (l : List S49) (c : List Int) (i : Nat) : (∃ s, cyR l c i = some s) ↔ CycTo l c i := by
  induction i with
  | zero => exact ⟨fun _ j hj => by omega, fun _ => ⟨0, rfl⟩⟩
  | succ i ih =>
    rw [cyR]
    cases h : cyR l c i with
    | none =>
      have hno : ¬ CycTo l c i := fun hc => by
        obtain ⟨s, hs⟩ := ih.2 hc
        rw [h] at hs; cases hs
      refine ⟨fun h1 => ?_, fun hc => absurd (fun j hj => hc j (by omega)) hno⟩
      obtain ⟨s, hs⟩ := h1
      cases hs
    | some s =>
      have hyes : CycTo l c i := ih.1 ⟨s, h⟩
      have hj := edgeAt_joined l (rd c (i : Int)) (rd c (((i + 1) % c.length : Nat) : Int))
      simp only
      split
      · rename_i hb
        refine ⟨fun ⟨s, hs⟩ => (by cases hs), fun hc => ?_⟩
        obtain ⟨x, y, z⟩ := hc i (by omega)
        rcases hb with hb | ⟨hb, hb2⟩ | hb
        · have := hj.2 x; omega
        · have := y hb; omega
        · exact absurd (by simpa using hb) z
      · rename_i hb
        refine ⟨fun _ j hj' => ?_, fun _ => ⟨_, rfl⟩⟩
        by_cases e : j = i
        · subst e
          refine ⟨hj.1 ?_, fun h0 => ?_, fun hm => hb (.inr (.inr (by simpa using hm)))⟩
          · rcases Int.lt_or_le (edgeAt l (rd c (j : Int)) (rd c (((j + 1) % c.length : Nat) : Int))) 0 with hh | hh
            · exact absurd (.inl hh) hb
            · exact hh
          · rcases Int.lt_or_le (rd c 0) (rd c (j : Int)) with hh | hh
            · exact hh
            · exact absurd (.inr (.inl ⟨h0, hh⟩)) hb
        · exact hyes j (by omega)
/-- A list is written as an odd cycle. -/
def CycIs (l : List S49) (c : List Int) : Prop := 3 ≤ c.length ∧ c.length % 2 = 1 ∧ rd c 1 < rd c ((c.length - 1 : Nat) : Int) ∧ CycTo l c c.length
theorem cycle_yes {l : List S49} {c : List Int} (hl : l.length ≤ 41) (hc : c.length ≤ 1000) (h : CycIs l c) : ∃ s, cyR l c c.length = some s ∧ remouldref05_Cycle.f l c = some ((s : Int), true) := by
  obtain ⟨h1, h2, h3, h4⟩ := h
  obtain ⟨s, hs⟩ := (cyR_iff l c c.length).2 h4
  refine ⟨s, hs, ?_⟩
  rw [remouldref05_Cycle.f, if_pos ⟨hl, hc⟩, if_neg (by omega), hs]
  rfl
theorem cycle_no {l : List S49} {c : List Int} (hl : l.length ≤ 41) (hc : c.length ≤ 1000) (h : ¬ CycIs l c) : remouldref05_Cycle.f l c = some (0, false) := by
  rw [remouldref05_Cycle.f, if_pos ⟨hl, hc⟩]
  by_cases hb : c.length < 3 ∨ c.length % 2 = 0 ∨ rd c 1 ≥ rd c ((c.length - 1 : Nat) : Int)
  · rw [if_pos hb]
  · rw [if_neg hb]
    cases hs : cyR l c c.length with
    | none => rfl
    | some s => exact absurd ⟨by omega, by omega, by omega, (cyR_iff l c c.length).1 ⟨s, hs⟩⟩ h
theorem rd_getD (c : List Int) (i : Nat) : rd c (i : Int) = c.getD i 0 := by simp [rd, List.getD_eq_getElem?_getD]
theorem getLast_getD (c : List Int) : c.getLastD 0 = c.getD (c.length - 1) 0 := by
  rw [List.getLastD_eq_getLast?, List.getLast?_eq_getElem?, List.getD_eq_getElem?_getD]
theorem isCycle_iff {n : Int} {l : List S49} (hU : UpIn n l) (c : List Int) : isCycleB n l c = true ↔ CycIs l c := by
  have hends : ∀ i : Nat, joinedB l (rd c (i : Int)) (rd c (((i + 1) % c.length : Nat) : Int)) = hasEdge l ((fun i => let v := c.getD i 0; let w := c.getD ((i + 1) % c.length) 0; (if v ≤ w then v else w, if v ≤ w then w else v)) i).1 ((fun i => let v := c.getD i 0; let w := c.getD ((i + 1) % c.length) 0; (if v ≤ w then v else w, if v ≤ w then w else v)) i).2 := by
    intro i
    rw [rd_getD, rd_getD]; rfl
  unfold isCycleB CycIs CycTo
  rw [Bool.and_eq_true, Bool.and_eq_true, Bool.and_eq_true, Bool.and_eq_true, decide_eq_true_eq, decide_eq_true_eq, decide_eq_true_eq, List.all_eq_true, List.all_eq_true, getLast_getD]
  constructor
  · rintro ⟨⟨⟨⟨h1, h2⟩, h3⟩, h4⟩, h5⟩
    have hall : ∀ j, j < c.length → joinedB l (rd c (j : Int)) (rd c (((j + 1) % c.length : Nat) : Int)) = true ∧ (0 < j → rd c 0 < rd c (j : Int)) ∧ rd c (j : Int) ∉ c.take j := by
      intro j hj
      have a := h4 j (by simpa using hj)
      simp only [Bool.and_eq_true, decide_eq_true_eq, Bool.not_eq_true', Bool.and_eq_false_iff, decide_eq_false_iff_not] at a
      refine ⟨?_, fun h0 => ?_, ?_⟩
      · rw [hends]
        apply h5
        unfold endsB
        rw [List.mem_map]
        exact ⟨j, by simpa using hj, rfl⟩
      · rw [rd_getD, show rd c 0 = c.getD 0 0 from rd_getD c 0]
        rcases a.1.2 with b | b
        · exact absurd h0 b
        · omega
      · rw [rd_getD]
        intro hm
        have := a.2
        rw [Bool.eq_false_iff] at this
        exact this (by simpa using hm)
    refine ⟨h1, h2, ?_, hall⟩
    rw [show rd c 1 = c.getD 1 0 from rd_getD c 1, rd_getD]
    have hne : c.getD 1 0 ≠ c.getD (c.length - 1) 0 := by
      intro e
      have := (hall (c.length - 1) (by omega)).2.2
      rw [rd_getD, ← e] at this
      apply this
      rw [List.mem_take_iff_getElem]
      refine ⟨1, by omega, ?_⟩
      rw [List.getD_eq_getElem?_getD, List.getElem?_eq_getElem (by omega)]
      rfl
    omega
  · rintro ⟨h1, h2, h3, h4⟩
    refine ⟨⟨⟨⟨h1, h2⟩, ?_⟩, fun i hi => ?_⟩, fun p hp => ?_⟩
    · rw [show rd c 1 = c.getD 1 0 from rd_getD c 1, rd_getD] at h3
      omega
    · have hi' : i < c.length := by simpa using hi
      obtain ⟨a, b, d⟩ := h4 i hi'
      have hb := JB_in hU _ _ a
      rw [rd_getD] at hb b d
      rw [show rd c 0 = c.getD 0 0 from rd_getD c 0] at b
      simp only [Bool.and_eq_true, decide_eq_true_eq, Bool.not_eq_true', Bool.and_eq_false_iff, decide_eq_false_iff_not]
      refine ⟨⟨⟨hb.1, by omega⟩, ?_⟩, ?_⟩
      · by_cases h0 : 0 < i
        · exact .inr (by have := b h0; omega)
        · exact .inl h0
      · rw [Bool.eq_false_iff]; intro hm; exact d (by simpa using hm)
    · unfold endsB at hp
      rw [List.mem_map] at hp
      obtain ⟨i, hi, rfl⟩ := hp
      rw [← hends]
      exact (h4 i (by simpa using hi)).1
/-- A way on distinct vertices, its first one the smallest. -/
def PathIs (l : List S49) (p : List Int) : Prop := p ≠ [] ∧ ∀ j, j < p.length → (j + 1 < p.length → joinedB l (rd p (j : Int)) (rd p ((j + 1 : Nat) : Int)) = true) ∧ (0 < j → rd p 0 < rd p (j : Int)) ∧ rd p (j : Int) ∉ p.take j
theorem rd_snoc (p : List Int) (v : Int) (j : Nat) (hj : j < p.length) : rd (p ++ [v]) (j : Int) = rd p (j : Int) := by
  rw [rd_getD, rd_getD, List.getD_eq_getElem?_getD, List.getD_eq_getElem?_getD, List.getElem?_append_left hj]
theorem rd_last (p : List Int) (v : Int) : rd (p ++ [v]) (p.length : Int) = v := by
  rw [rd_getD, List.getD_eq_getElem?_getD]; simp
theorem PathIs.one (l : List S49) (v : Int) : PathIs l [v] := ⟨by simp, fun j hj => by
  obtain rfl : j = 0 := by simp at hj; exact hj
  exact ⟨fun h => by simp at h, fun h => by omega, by simp⟩⟩
theorem PathIs.snoc {l : List S49} {p : List Int} (h : PathIs l p) {v : Int} (hJ : joinedB l (rd p ((p.length - 1 : Nat) : Int)) v = true) (h0 : rd p 0 < v) (hf : v ∉ p) : PathIs l (p ++ [v]) := by
  obtain ⟨hne, hp⟩ := h
  have hpos : 0 < p.length := List.length_pos_iff.2 hne
  refine ⟨by simp, fun j hj => ?_⟩
  have h00 : rd (p ++ [v]) 0 = rd p 0 := rd_snoc p v 0 hpos
  rw [h00]
  by_cases e : j = p.length
  · subst e
    refine ⟨fun h => by simp at h, fun _ => by rw [rd_last]; exact h0, ?_⟩
    rw [rd_last, List.take_left']
    · exact hf
    · rfl
  · have hj' : j < p.length := by simp at hj; omega
    obtain ⟨a, b, c⟩ := hp j hj'
    refine ⟨fun _ => ?_, fun hh => by rw [rd_snoc p v j hj']; exact b hh, ?_⟩
    · rw [rd_snoc p v j hj']
      by_cases e2 : j + 1 = p.length
      · rw [e2, rd_last]
        rw [show p.length - 1 = j by omega] at hJ
        exact hJ
      · rw [rd_snoc p v (j + 1) (by omega)]
        exact a (by omega)
    · rw [rd_snoc p v j hj', List.take_append_of_le_length (by omega)]
      exact c
/-- The leaf: the reference's question and the program's. -/
theorem leaf_iff {l : List S49} {p : List Int} (h : PathIs l p) (h3 : 3 ≤ p.length) (hodd : p.length % 2 = 1) : CycIs l p ↔ ¬ (rd p 1 > rd p ((p.length - 1 : Nat) : Int) ∨ joinedB l (rd p 0) (rd p ((p.length - 1 : Nat) : Int)) = false) := by
  obtain ⟨hne, hp⟩ := h
  have hmod : ∀ j, j < p.length → (j + 1) % p.length = if j + 1 = p.length then 0 else j + 1 := fun j hj => by
    split
    · rename_i e; rw [e, Nat.mod_self]
    · exact Nat.mod_eq_of_lt (by omega)
  have hne1 : rd p 1 ≠ rd p ((p.length - 1 : Nat) : Int) := by
    intro e
    have := (hp (p.length - 1) (by omega)).2.2
    rw [← e] at this
    apply this
    rw [List.mem_take_iff_getElem]
    refine ⟨1, by omega, ?_⟩
    rw [show rd p 1 = p.getD 1 0 from rd_getD p 1, List.getD_eq_getElem?_getD, List.getElem?_eq_getElem (by omega)]
    rfl
  constructor
  · rintro ⟨_, _, h1, h4⟩ hb
    rcases hb with hb | hb
    · omega
    · have := (h4 (p.length - 1) (by omega)).1
      rw [hmod _ (by omega), if_pos (by omega)] at this
      have := JB_symm l _ _ this
      rw [show ((0 : Nat) : Int) = 0 from rfl] at this
      unfold JB at this
      rw [hb] at this; cases this
  · intro hb
    refine ⟨h3, hodd, ?_, fun j hj => ?_⟩
    · rcases Int.lt_or_le (rd p 1) (rd p ((p.length - 1 : Nat) : Int)) with h | h
      · exact h
      · exact absurd (.inl (by omega)) hb
    · obtain ⟨a, b, c⟩ := hp j hj
      refine ⟨?_, b, c⟩
      rw [hmod j hj]
      split
      · have e : j = p.length - 1 := by omega
        subst e
        have : JB l (rd p 0) (rd p ((p.length - 1 : Nat) : Int)) := by
          unfold JB
          cases hh : joinedB l (rd p 0) (rd p ((p.length - 1 : Nat) : Int))
          · exact absurd (.inr hh) hb
          · rfl
        exact JB_symm l _ _ this
      · exact a (by omega)

end Go.Proofs.Ytkefmlhkejoknaa.L
