/- Plain law: what is found is an odd cycle (lines of P9, P14, P37). -/
import Derived.Test.YtkefmlhkejoknabXOdd
namespace Go.Proofs.Ytkefmlhkejoknab.L
set_option linter.unusedVariables false
set_option linter.unusedSimpArgs false
open Go.RowKit Go.Proofs.YtkefmlhkejoknabW.PrintWords Go.Proofs.YtkefmlhkejoknabW.PrintLast Go.Proofs.YtkefmlhkejoknabW.PrintMore

/-- A walk of k steps. -/
def Tr (J : Int → Int → Prop) (k : Nat) (a b : Int) : Prop := ∃ p : Nat → Int, p 0 = a ∧ p k = b ∧ ∀ i, i < k → J (p i) (p (i + 1))
theorem Tr.nil (J : Int → Int → Prop) (a : Int) : Tr J 0 a a := ⟨fun _ => a, rfl, rfl, fun i h => by omega⟩
theorem Tr.one {J : Int → Int → Prop} {a b : Int} (h : J a b) : Tr J 1 a b := ⟨fun i => if i = 0 then a else b, rfl, rfl, fun i hi => by
  obtain rfl : i = 0 := by omega
  exact h⟩
/-- Joined. -/
def JB (l : List S46) (a b : Int) : Prop := joinedB l a b = true
theorem hasEdge_iff (l : List S46) (a b : Int) : hasEdge l a b = true ↔ ∃ e ∈ l, e.f0 = a ∧ e.f1 = b := by
  simp [hasEdge, List.any_eq_true, and_comm]
theorem JB_iff (l : List S46) (a b : Int) : JB l a b ↔ ∃ e ∈ l, (e.f0 = a ∧ e.f1 = b ∧ a ≤ b) ∨ (e.f0 = b ∧ e.f1 = a ∧ b ≤ a) := by
  unfold JB joinedB
  rw [hasEdge_iff]
  constructor
  · rintro ⟨e, he, h0, h1⟩
    refine ⟨e, he, ?_⟩
    by_cases c : a ≤ b
    · rw [if_pos c] at h0 h1; exact .inl ⟨h0, h1, c⟩
    · rw [if_neg c] at h0 h1; exact .inr ⟨h0, h1, by omega⟩
  · rintro ⟨e, he, ⟨h0, h1, c⟩ | ⟨h0, h1, c⟩⟩
    · exact ⟨e, he, by rw [if_pos c]; exact h0, by rw [if_pos c]; exact h1⟩
    · by_cases c' : a ≤ b
      · exact ⟨e, he, by rw [if_pos c']; omega, by rw [if_pos c']; omega⟩
      · exact ⟨e, he, by rw [if_neg c']; exact h0, by rw [if_neg c']; exact h1⟩
theorem JB_symm (l : List S46) (a b : Int) (h : JB l a b) : JB l b a := by
  rw [JB_iff] at h ⊢
  obtain ⟨e, he, h | h⟩ := h
  · exact ⟨e, he, .inr h⟩
  · exact ⟨e, he, .inl h⟩
/-- What Cycle asks of the first i vertices. -/
def CycTo (l : List S46) (c : List Int) (i : Nat) : Prop := ∀ j, j < i → joinedB l (rd c (j : Int)) (rd c (((j + 1) % c.length : Nat) : Int)) = true ∧ (0 < j → rd c 0 < rd c (j : Int)) ∧ rd c (j : Int) ∉ c.take j
/-- A list is written as an odd cycle. -/
def CycIs (l : List S46) (c : List Int) : Prop := 3 ≤ c.length ∧ c.length % 2 = 1 ∧ rd c 1 < rd c ((c.length - 1 : Nat) : Int) ∧ CycTo l c c.length
theorem rd_getD (c : List Int) (i : Nat) : rd c (i : Int) = c.getD i 0 := by simp [rd, List.getD_eq_getElem?_getD]
theorem getLast_getD (c : List Int) : c.getLastD 0 = c.getD (c.length - 1) 0 := by
  rw [List.getLastD_eq_getLast?, List.getLast?_eq_getElem?, List.getD_eq_getElem?_getD]
/-- A way on distinct vertices, its first one the smallest. -/
def PathIs (l : List S46) (p : List Int) : Prop := p ≠ [] ∧ ∀ j, j < p.length → (j + 1 < p.length → joinedB l (rd p (j : Int)) (rd p ((j + 1 : Nat) : Int)) = true) ∧ (0 < j → rd p 0 < rd p (j : Int)) ∧ rd p (j : Int) ∉ p.take j
theorem rd_snoc (p : List Int) (v : Int) (j : Nat) (hj : j < p.length) : rd (p ++ [v]) (j : Int) = rd p (j : Int) := by
  rw [rd_getD, rd_getD, List.getD_eq_getElem?_getD, List.getD_eq_getElem?_getD, List.getElem?_append_left hj]
theorem rd_last (p : List Int) (v : Int) : rd (p ++ [v]) (p.length : Int) = v := by
  rw [rd_getD, List.getD_eq_getElem?_getD]; simp
theorem PathIs.one (l : List S46) (v : Int) : PathIs l [v] := ⟨by simp, fun j hj => by
  obtain rfl : j = 0 := by simp at hj; exact hj
  exact ⟨fun h => by simp at h, fun h => by omega, by simp⟩⟩
theorem PathIs.snoc {l : List S46} {p : List Int} (h : PathIs l p) {v : Int} (hJ : joinedB l (rd p ((p.length - 1 : Nat) : Int)) v = true) (h0 : rd p 0 < v) (hf : v ∉ p) : PathIs l (p ++ [v]) := by
  obtain ⟨hne, hp⟩ := h
  have hpos : 0 < p.length := List.length_pos_iff.2 hne
  refine ⟨by simp, fun j hj => ?_⟩
  have h00 : rd (p ++ [v]) 0 = rd p 0 := rd_snoc p v 0 hpos
  rw [h00]
  by_cases e : j = p.length
  · subst e
    refine ⟨fun h => by simp at h, fun _ => by rw [rd_last]; exact h0, ?_⟩
    rw [rd_last, List.take_left']
    · exact hf
    · rfl
  · have hj' : j < p.length := by simp at hj; omega
    obtain ⟨a, b, c⟩ := hp j hj'
    refine ⟨fun _ => ?_, fun hh => by rw [rd_snoc p v j hj']; exact b hh, ?_⟩
    · rw [rd_snoc p v j hj']
      by_cases e2 : j + 1 = p.length
      · rw [e2, rd_last]
        rw [show p.length - 1 = j by omega] at hJ
        exact hJ
      · rw [rd_snoc p v (j + 1) (by omega)]
        exact a (by omega)
    · rw [rd_snoc p v j hj', List.take_append_of_le_length (by omega)]
      exact c
/-- The leaf: the reference's question and the program's. -/
theorem leaf_iff {l : List S46} {p : List Int} (h : PathIs l p) (h3 : 3 ≤ p.length) (hodd : p.length % 2 = 1) : CycIs l p ↔ ¬ (rd p 1 > rd p ((p.length - 1 : Nat) : Int) ∨ joinedB l (rd p 0) (rd p ((p.length - 1 : Nat) : Int)) = false) := by
  obtain ⟨hne, hp⟩ := h
  have hmod : ∀ j, j < p.length → (j + 1) % p.length = if j + 1 = p.length then 0 else j + 1 := fun j hj => by
    split
    · rename_i e; rw [e, Nat.mod_self]
    · exact Nat.mod_eq_of_lt (by omega)
  have hne1 : rd p 1 ≠ rd p ((p.length - 1 : Nat) : Int) := by
    intro e
    have := (hp (p.length - 1) (by omega)).2.2
    rw [← e] at this
    apply this
    rw [List.mem_take_iff_getElem]
    refine ⟨1, by omega, ?_⟩
    rw [show rd p 1 = p.getD 1 0 from rd_getD p 1, List.getD_eq_getElem?_getD, List.getElem?_eq_getElem (by omega)]
    rfl
  constructor
  · rintro ⟨_, _, h1, h4⟩ hb
    rcases hb with hb | hb
    · omega
    · have := (h4 (p.length - 1) (by omega)).1
      rw [hmod _ (by omega), if_pos (by omega)] at this
      have := JB_symm l _ _ this
      rw [show ((0 : Nat) : Int) = 0 from rfl] at this
      unfold JB at this
      rw [hb] at this; cases this
  · intro hb
    refine ⟨h3, hodd, ?_, fun j hj => ?_⟩
    · rcases Int.lt_or_le (rd p 1) (rd p ((p.length - 1 : Nat) : Int)) with h | h
      · exact h
      · exact absurd (.inl (by omega)) hb
    · obtain ⟨a, b, c⟩ := hp j hj
      refine ⟨?_, b, c⟩
      rw [hmod j hj]
      split
      · have e : j = p.length - 1 := by omega
        subst e
        have : JB l (rd p 0) (rd p ((p.length - 1 : Nat) : Int)) := by
          unfold JB
          cases hh : joinedB l (rd p 0) (rd p ((p.length - 1 : Nat) : Int))
          · exact absurd (.inr hh) hb
          · rfl
        exact JB_symm l _ _ this
      · exact a (by omega)

/-- The end of an edge of a cycle. -/
def endAt (c : List Int) (i : Nat) : Int × Int :=
  let v := c.getD i 0; let w := c.getD ((i + 1) % c.length) 0; (if v ≤ w then v else w, if v ≤ w then w else v)
theorem endsB_eq (c : List Int) : endsB c = (List.range c.length).map (endAt c) := rfl
/-- Different places of a cycle have different edges. -/
theorem ends_ne {c : List Int} (h3 : 3 ≤ c.length) (hd : ∀ j, j < c.length → rd c (j : Int) ∉ c.take j) (i j : Nat) (hij : i < j) (hj : j < c.length) : endAt c i ≠ endAt c j := by
  have hne : ∀ a b, a < b → b < c.length → c.getD a 0 ≠ c.getD b 0 := fun a b hab hb e => by
    have := hd b hb
    rw [rd_getD, ← e] at this
    apply this
    rw [List.mem_take_iff_getElem]
    refine ⟨a, by omega, ?_⟩
    rw [List.getD_eq_getElem?_getD, List.getElem?_eq_getElem (by omega)]
    rfl
  have hne' : ∀ a b, a ≠ b → a < c.length → b < c.length → c.getD a 0 ≠ c.getD b 0 := fun a b hab ha hb e => by
    rcases Nat.lt_or_gt_of_ne hab with h | h
    · exact hne a b h hb e
    · exact hne b a h ha e.symm
  intro e
  unfold endAt at e
  simp only [Prod.mk.injEq] at e
  have hi1 : (i + 1) % c.length = i + 1 := Nat.mod_eq_of_lt (by omega)
  rw [hi1] at e
  by_cases hl : j + 1 = c.length
  · have hj1 : (j + 1) % c.length = 0 := by rw [hl, Nat.mod_self]
    rw [hj1] at e
    have x1 := hne' i j (by omega) (by omega) (by omega)
    have x3 : i + 1 ≠ 0 → c.getD (i + 1) 0 ≠ c.getD 0 0 := fun h => hne' (i + 1) 0 h (by omega) (by omega)
    have x3' := x3 (by omega)
    by_cases hi0 : i = 0
    · subst hi0
      have x4 := hne' 1 j (by omega) (by omega) (by omega)
      rw [Nat.zero_add] at e
      revert e; split <;> split <;> intro e <;> omega
    · have x5 := hne' i 0 hi0 (by omega) (by omega)
      revert e; split <;> split <;> intro e <;> omega
  · have hj1 : (j + 1) % c.length = j + 1 := Nat.mod_eq_of_lt (by omega)
    rw [hj1] at e
    have x1 := hne' i j (by omega) (by omega) (by omega)
    have x2 := hne' i (j + 1) (by omega) (by omega) (by omega)
    revert e; split <;> split <;> intro e <;> omega
theorem ends_nodup {l : List S46} {c : List Int} (h : CycIs l c) : (endsB c).Nodup := by
  rw [endsB_eq, List.Nodup, List.pairwise_map]
  refine List.Pairwise.imp_of_mem ?_ (List.pairwise_lt_range)
  intro a b ha hb hab
  exact ends_ne h.1 (fun j hj => (h.2.2.2 j hj).2.2) a b hab (by simpa using hb)
theorem contains_false_mem {p : List Int} {v : Int} (h : (!p.contains v) = true) : v ∉ p := by
  intro hm
  rw [Bool.not_eq_true', Bool.eq_false_iff] at h
  exact h (by rw [List.contains_iff_mem]; exact hm)
theorem cyc_sound (n : Int) (l : List S46) (size : Nat) (hodd : size % 2 = 1) (h3 : 3 ≤ size) : ∀ (d : Nat) (p x : List Int), PathIs l p → p.length + d = size → x ∈ cycB n l size d p → CycIs l x := by
  intro d
  induction d with
  | zero =>
    intro p x hp hlen hx
    have e0 : p.headD 0 = rd p 0 := by obtain ⟨hne, _⟩ := hp; cases p <;> simp [rd]
    rw [cycB, e0, getLast_getD, ← rd_getD, ← rd_getD] at hx
    split at hx
    · simp at hx
    · rename_i hb
      simp only [List.mem_singleton] at hx
      subst hx
      rw [leaf_iff hp (by omega) (by omega)]
      intro hc
      apply hb
      simp only [Bool.or_eq_true, decide_eq_true_eq, Bool.not_eq_true']
      exact hc
  | succ d ih =>
    intro p x hp hlen hx
    have hne := hp.1
    rw [cycB_step n l size d p _ _ hne rfl rfl, List.mem_flatMap] at hx
    obtain ⟨v, hv, hx⟩ := hx
    rw [List.mem_map] at hv
    obtain ⟨i, _, rfl⟩ := hv
    split at hx
    · rename_i hc
      rw [Bool.and_eq_true] at hc
      refine ih _ x (hp.snoc hc.1 ?_ (contains_false_mem hc.2)) (by simp; omega) hx
      show rd p ((0 : Nat) : Int) < _
      omega
    · simp at hx
theorem cycles_sound {n : Int} {l : List S46} {size : Nat} (hodd : size % 2 = 1) (h3 : 3 ≤ size) {x : List Int} (hx : x ∈ cyclesB n l size) : CycIs l x := by
  unfold cyclesB at hx
  rw [List.mem_flatMap] at hx
  obtain ⟨v, _, hv⟩ := hx
  exact cyc_sound n l size hodd h3 (size - 1) _ x (PathIs.one l _) (by simp; omega) hv
end Go.Proofs.Ytkefmlhkejoknab.L
