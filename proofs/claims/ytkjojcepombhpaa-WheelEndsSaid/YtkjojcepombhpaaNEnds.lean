/- Plain law: what the law WheelEnds says of Cycle and Orbit. -/
import Derived.Test.YtkjojcepombhpaaN7
namespace Go.Proofs.Ytkjojcepombhpaa.L
set_option linter.unusedVariables false
set_option linter.unusedSimpArgs false
open Go.RowKit Go.Proofs.YtkjojcepombhpaaW.PrintWords Go.Proofs.YtkjojcepombhpaaW.PrintLast Go.Proofs.YtkjojcepombhpaaW.PrintMore

/-- A cycle c behind j numbers of the orbit l of x. -/
structure EndP (m : Int) (t p : List Int) (x : Int) (j : Nat) (c l : List Int) : Prop where
  cl : 0 < c.length
  cm : c.length ≤ 500
  jm : j ≤ 500
  ll : l.length = j + c.length + 1
  back : rd l (j : Int) = rd l ((j + c.length : Nat) : Int)
  head : rd l 0 = x
  small : ∀ k, k < c.length → smallB (rd c (k : Int)) = true
  sent : ∀ k, k < c.length → sentW m t p (rd c (k : Int)) = rd c (((k + 1) % c.length : Nat) : Int)
  min : ∀ k, k < c.length → rd c 0 ≤ rd c (k : Int)
  ne : ∀ k, 0 < k → k < c.length → rd c (k : Int) ≠ rd c 0
  mem : ∀ i, i < l.length → (rd l (i : Int) ∈ c ↔ j ≤ i)
section
variable {m : Int} {t p : List Int}
theorem orbTo_rd (x : Int) (K i : Nat) (h : i < K) : rd (orbTo m t p x K) (i : Int) = iterW m t p i x := by
  rw [rd, Int.toNat_natCast, List.getD_eq_getElem?_getD, orbTo_get x K i h]
  rfl
theorem endP {x steps : Int} {N j : Nat} (h : Found m t p x steps N j) (h5 : steps ≤ 500) : EndP m t p x j (writtenL ((orbTo m t p x N).drop j)) (orbTo m t p x (N + 1)) := by
  have hc := h.cyc
  have hlt := h.lt
  have hle := h.le
  have hmem : ∀ y, y ∈ writtenL ((orbTo m t p x N).drop j) ↔ y ∈ (orbTo m t p x N).drop j := by
    intro y
    unfold writtenL
    conv => rhs; rw [← List.take_append_drop (minAt ((orbTo m t p x N).drop j)) ((orbTo m t p x N).drop j)]
    rw [List.mem_append, List.mem_append]
    exact Or.comm
  have hmem2 : ∀ y, y ∈ (orbTo m t p x N).drop j ↔ ∃ i, j ≤ i ∧ i < N ∧ iterW m t p i x = y := by
    intro y
    rw [orbTo_drop, mem_orbTo]
    constructor
    · rintro ⟨i, h1, h2⟩
      exact ⟨i + j, by omega, by omega, by rw [iterW_add]; exact h2⟩
    · rintro ⟨i, h1, h2, h3⟩
      exact ⟨i - j, by omega, by rw [← iterW_add, show i - j + j = i by omega]; exact h3⟩
  obtain ⟨a, ha, _, hw, hm⟩ := written_orb hc
  have hw2 : writtenL ((orbTo m t p x N).drop j) = orbTo m t p (iterW m t p a (iterW m t p j x)) (N - j) := by rw [orbTo_drop]; exact hw
  have hz := hc.turn a
  have hmin : ∀ i, iterW m t p a (iterW m t p j x) ≤ iterW m t p i (iterW m t p a (iterW m t p j x)) := fun i => by
    rw [← iterW_add (m := m) (t := t) (p := p) i a (iterW m t p j x)]
    exact hm (i + a)
  rw [hw2] at hmem ⊢
  generalize iterW m t p a (iterW m t p j x) = z at *
  have hl := orbTo_length m t p z (N - j)
  have hl2 := orbTo_length m t p x (N + 1)
  refine ⟨by omega, by omega, by omega, by omega, ?_, orbTo_rd x (N + 1) 0 (by omega), ?_, ?_, ?_, ?_, ?_⟩
  · rw [orbTo_rd x (N + 1) j (by omega), orbTo_rd x (N + 1) (j + (orbTo m t p z (N - j)).length) (by omega), hl, show j + (N - j) = N by omega]
    exact h.back.symm
  · intro k hk
    rw [orbTo_rd z (N - j) k (by omega)]
    exact hz.small k
  · intro k hk
    rw [hl] at hk ⊢
    rw [orbTo_rd z (N - j) k hk, orbTo_rd z (N - j) ((k + 1) % (N - j)) (Nat.mod_lt _ (by omega)), ← CycOf.mod hz.pos hz.back, iterW_succ]
  · intro k hk
    rw [hl] at hk
    rw [show ((0 : Int)) = ((0 : Nat) : Int) from rfl, orbTo_rd z (N - j) 0 (by omega), orbTo_rd z (N - j) k hk]
    exact hmin k
  · intro k h0 hk e
    rw [hl] at hk
    rw [show ((0 : Int)) = ((0 : Nat) : Int) from rfl, orbTo_rd z (N - j) 0 (by omega), orbTo_rd z (N - j) k hk] at e
    have := hz.inj hk (show 0 < N - j by omega) e
    omega
  · intro i hi
    rw [hl2] at hi
    rw [hmem, hmem2, orbTo_rd x (N + 1) i hi]
    constructor
    · rintro ⟨q, h1, h2, h3⟩
      rcases Nat.lt_or_ge i N with h4 | h4
      · have := (List.getElem?_inj (i := q) (j := i) (by rw [orbTo_length]; exact h2) h.nodup).1 (by rw [orbTo_get _ _ _ h2, orbTo_get _ _ _ h4, h3])
        omega
      · omega
    · intro h1
      rcases Nat.lt_or_ge i N with h4 | h4
      · exact ⟨i, h1, h4, rfl⟩
      · obtain rfl : i = N := by omega
        exact ⟨j, Nat.le_refl _, hlt, h.back.symm⟩
end
end Go.Proofs.Ytkjojcepombhpaa.L
