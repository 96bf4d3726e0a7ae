/- Plain law: without a side that cuts every edge the visited cycles hold an odd one. -/
import Derived.Test.YtkefmlhkejoknaaP4
import Derived.Test.YtkefmlhkejoknaaP8
namespace Go.Proofs.Ytkefmlhkejoknaa.L
set_option linter.unusedVariables false
set_option linter.unusedSimpArgs false
open Go.RowKit Go.Proofs.YtkefmlhkejoknaaW.PrintWords Go.Proofs.YtkefmlhkejoknaaW.PrintLast Go.Proofs.YtkefmlhkejoknaaW.PrintMore

/-- Joined. -/
def JB (l : List S49) (a b : Int) : Prop := joinedB l a b = true
theorem hasEdge_iff (l : List S49) (a b : Int) : hasEdge l a b = true ↔ ∃ e ∈ l, e.f0 = a ∧ e.f1 = b := by
  simp [hasEdge, List.any_eq_true, and_comm]
theorem JB_iff (l : List S49) (a b : Int) : JB l a b ↔ ∃ e ∈ l, (e.f0 = a ∧ e.f1 = b ∧ a ≤ b) ∨ (e.f0 = b ∧ e.f1 = a ∧ b ≤ a) := by
  unfold JB joinedB
  rw [hasEdge_iff]
  constructor
  · rintro ⟨e, he, h0, h1⟩
    refine ⟨e, he, ?_⟩
    by_cases c : a ≤ b
    · rw [if_pos c] at h0 h1; exact .inl ⟨h0, h1, c⟩
    · rw [if_neg c] at h0 h1; exact .inr ⟨h0, h1, by omega⟩
  · rintro ⟨e, he, ⟨h0, h1, c⟩ | ⟨h0, h1, c⟩⟩
    · exact ⟨e, he, by rw [if_pos c]; exact h0, by rw [if_pos c]; exact h1⟩
    · by_cases c' : a ≤ b
      · exact ⟨e, he, by rw [if_pos c']; omega, by rw [if_pos c']; omega⟩
      · exact ⟨e, he, by rw [if_neg c']; exact h0, by rw [if_neg c']; exact h1⟩
theorem JB_symm (l : List S49) (a b : Int) (h : JB l a b) : JB l b a := by
  rw [JB_iff] at h ⊢
  obtain ⟨e, he, h | h⟩ := h
  · exact ⟨e, he, .inr h⟩
  · exact ⟨e, he, .inl h⟩
/-- The edges run upwards, within the vertices. -/
def UpIn (n : Int) (l : List S49) : Prop := ∀ e ∈ l, 0 ≤ e.f0 ∧ e.f0 < e.f1 ∧ e.f1 < n
theorem JB_irrefl {n : Int} {l : List S49} (hU : UpIn n l) (a : Int) : ¬ JB l a a := by
  rw [JB_iff]
  rintro ⟨e, he, ⟨h0, h1, _⟩ | ⟨h0, h1, _⟩⟩ <;> have := hU e he <;> omega
theorem JB_in {n : Int} {l : List S49} (hU : UpIn n l) (a b : Int) (h : JB l a b) : 0 ≤ a ∧ a < n := by
  rw [JB_iff] at h
  obtain ⟨e, he, ⟨h0, h1, _⟩ | ⟨h0, h1, _⟩⟩ := h <;> have := hU e he <;> omega

/-- A number with given bits. -/
def bitsN (f : Nat → Bool) : Nat → Nat
  | 0 => 0
  | k + 1 => if f k then 2 ^ k + bitsN f k else bitsN f k
theorem bitsN_lt (f : Nat → Bool) (k : Nat) : bitsN f k < 2 ^ k := by
  induction k with
  | zero => simp [bitsN]
  | succ k ih =>
    rw [bitsN, Nat.pow_succ]
    split <;> omega
theorem bitsN_test (f : Nat → Bool) (k i : Nat) (h : i < k) : (bitsN f k).testBit i = f i := by
  induction k with
  | zero => omega
  | succ k ih =>
    rw [bitsN]
    by_cases e : i = k
    · subst e
      cases c : f i
      · rw [if_neg (by decide)]; exact Nat.testBit_lt_two_pow (bitsN_lt f i)
      · rw [if_pos rfl, Nat.testBit_two_pow_add_eq, Nat.testBit_lt_two_pow (bitsN_lt f i)]; rfl
    · rw [← ih (by omega)]
      split
      · exact Nat.testBit_two_pow_add_gt (by omega) _
      · rfl
/-- Two colors are a side that cuts all edges. -/
theorem colors_cut {N : Nat} {l : List S49} (hU : UpIn N l) (col : Int → Bool) (hc : ∀ a b, JB l a b → col a ≠ col b) : ∃ s, s < 2 ^ N ∧ allCut N l s = true := by
  have hh : ∀ v : Int, 0 ≤ v → v < N → hasB N (bitsN (fun i => col ((N : Int) - 1 - (i : Int))) N) v = col v := by
    intro v h0 h1
    rw [hasB, bitsN_test _ _ _ (by omega)]
    congr 1; omega
  refine ⟨bitsN (fun i => col ((N : Int) - 1 - (i : Int))) N, bitsN_lt _ _, ?_⟩
  rw [allCut, List.all_eq_true]
  intro e he
  have hu := hU e he
  rw [cutB, hh _ (by omega) (by omega), hh _ (by omega) (by omega), bne_iff_ne]
  exact hc _ _ ((JB_iff _ _ _).2 ⟨e, he, .inl ⟨rfl, rfl, by omega⟩⟩)

theorem map_getLast (q : Nat → Int) (j : Nat) (d : Int) : ((List.range (j + 1)).map q).getLastD d = q j := by
  rw [List.range_succ, List.map_append]; simp
theorem map_head (q : Nat → Int) (j : Nat) (d : Int) : ((List.range (j + 1)).map q).headD d = q 0 := by
  rw [List.range_succ_eq_map]; simp
/-- A simple odd cycle is found. -/
theorem cyc_found {N : Nat} {l : List S49} (hU : UpIn N l) {k : Nat} {q : Nat → Int} (h : OddCyc (JB l) k q) : ∀ d j : Nat, j + d + 1 = k → (List.range k).map q ∈ cycB N l k d ((List.range (j + 1)).map q) := by
  obtain ⟨hk, hk3, hJ, hp, hd, h0, h1⟩ := h
  intro d
  induction d with
  | zero =>
    intro j hj
    obtain rfl : k = j + 1 := by omega
    rw [cycB, if_neg]
    · simp
    · rw [map_getLast, map_head]
      have e1 : ((List.range (j + 1)).map q).getD 1 0 = q 1 := by
        rw [List.getD_eq_getElem?_getD, List.getElem?_map, List.getElem?_range (by omega)]; rfl
      have e2 : joinedB l (q 0) (q j) = true := by
        have := hJ j
        rw [show q (j + 1) = q 0 by have := hp 0; rwa [Nat.zero_add] at this] at this
        exact JB_symm _ _ _ this
      rw [e1, e2]
      simp only [show j + 1 - 1 = j by omega] at h1
      simp
      omega
  | succ d ih =>
    intro j hj
    rw [cycB, List.mem_flatMap]
    have hin := JB_in hU _ _ (hJ (j + 1))
    have hgt := h0 (j + 1) (by omega) (by omega)
    have hin0 := JB_in hU _ _ (hJ 0)
    refine ⟨q (j + 1), ?_, ?_⟩
    · rw [List.mem_map, map_head]
      exact ⟨(q (j + 1) - q 0 - 1).toNat, by rw [List.mem_range]; omega, by omega⟩
    · rw [map_getLast, if_pos]
      · have := ih (j + 1) (by omega)
        rwa [List.range_succ, List.map_append] at this
      · rw [Bool.and_eq_true]
        refine ⟨hJ j, ?_⟩
        rw [Bool.not_eq_true', Bool.eq_false_iff]
        intro hm
        rw [List.contains_iff_mem, List.mem_map] at hm
        obtain ⟨i, hi, he⟩ := hm
        rw [List.mem_range] at hi
        exact hd i (j + 1) hi (by omega) he
theorem odd_le {N : Nat} {l : List S49} (hU : UpIn N l) {k : Nat} {q : Nat → Int} (h : OddCyc (JB l) k q) : k ≤ N := by
  obtain ⟨hk, hk3, hJ, hp, hd, h0, h1⟩ := h
  have := nodup_le N ((List.range k).map q) (by
    rw [List.Nodup, List.pairwise_map]
    refine List.Pairwise.imp_of_mem ?_ (List.pairwise_lt_range)
    intro a b ha hb hab
    exact hd a b hab (by simpa using hb)) (fun x hx => by
    rw [List.mem_map] at hx
    obtain ⟨i, _, rfl⟩ := hx
    exact JB_in hU _ _ (hJ i))
  simpa using this
theorem cycles_found {N : Nat} {l : List S49} (hU : UpIn N l) {k : Nat} {q : Nat → Int} (h : OddCyc (JB l) k q) : (List.range k).map q ∈ cyclesB N l k := by
  have h3 : 3 ≤ k := h.2.1
  have hin := JB_in hU _ _ (h.2.2.1 0)
  have := cyc_found hU h (k - 1) 0 (by omega)
  rw [cyclesB, List.mem_flatMap]
  refine ⟨(q 0).toNat, by rw [List.mem_range]; omega, ?_⟩
  have e : ((q 0).toNat : Int) = q 0 := by omega
  rw [e]
  exact this
/-- Without a side that cuts every edge there is an odd cycle. -/
theorem odd_exists {N : Nat} {l : List S49} (hU : UpIn N l) (hno : ∀ s, s < 2 ^ N → allCut N l s = false) : ∃ k, k % 2 = 1 ∧ 3 ≤ k ∧ k ≤ N ∧ cyclesB N l k ≠ [] := by
  rcases colors_or_cycle (JB_symm l) (JB_irrefl hU) (fun a b h => (JB_in hU a b h).1) with ⟨col, hc⟩ | ⟨k, q, h⟩
  · obtain ⟨s, hs, h1⟩ := colors_cut hU col hc
    rw [hno s hs] at h1; cases h1
  · exact ⟨k, h.1, h.2.1, odd_le hU h, List.ne_nil_of_mem (cycles_found hU h)⟩

end Go.Proofs.Ytkefmlhkejoknaa.L
