/- Plain law: the cycle to which a number comes. -/
import Derived.Test.YtkjojcepombhpaaXCycle
namespace Go.Proofs.Ytkjojcepombhpaa.L
set_option linter.unusedVariables false
set_option linter.unusedSimpArgs false
open Go.RowKit Go.Proofs.YtkjojcepombhpaaW.PrintWords Go.Proofs.YtkjojcepombhpaaW.PrintLast Go.Proofs.YtkjojcepombhpaaW.PrintMore

theorem minL_le (l : List Int) (i : Nat) (hi : i < l.length) : minL l ≤ rd l (i : Int) := minTo_le l (l.length - 1) i (by omega)
theorem writtenL_length (l : List Int) : (writtenL l).length = l.length := by
  unfold writtenL
  rw [List.length_append, List.length_drop, List.length_take]
  omega
variable {m : Int} {t p : List Int}
theorem iterW_add (a : Nat) : ∀ (b : Nat) (x : Int), iterW m t p (a + b) x = iterW m t p a (iterW m t p b x) := by
  intro b
  induction b with
  | zero => intro x; rfl
  | succ b ih => intro x; exact ih (sentW m t p x)
theorem orbTo_get (x : Int) (n i : Nat) (hi : i < n) : (orbTo m t p x n)[i]? = some (iterW m t p i x) := by simp [orbTo, hi]
theorem orbTo_drop (x : Int) (n j : Nat) : (orbTo m t p x n).drop j = orbTo m t p (iterW m t p j x) (n - j) := by
  apply List.ext_getElem?
  intro i
  rw [List.getElem?_drop]
  by_cases h : i < n - j
  · rw [orbTo_get x n (j + i) (by omega), orbTo_get _ _ _ h, Nat.add_comm, iterW_add]
  · rw [List.getElem?_eq_none (by rw [orbTo_length]; omega), List.getElem?_eq_none (by rw [orbTo_length]; omega)]
theorem mem_orbTo {x y : Int} {n : Nat} : y ∈ orbTo m t p x n ↔ ∃ i, i < n ∧ iterW m t p i x = y := by simp [orbTo]

theorem orbTo_add (x : Int) (n k : Nat) : orbTo m t p x (n + k) = orbTo m t p x n ++ orbTo m t p (iterW m t p n x) k := by
  apply List.ext_getElem?
  intro i
  rcases Nat.lt_or_ge i n with h | h
  · rw [List.getElem?_append_left (by rw [orbTo_length]; exact h), orbTo_get _ _ _ h, orbTo_get _ _ _ (by omega)]
  · rw [List.getElem?_append_right (by rw [orbTo_length]; exact h), orbTo_length]
    rcases Nat.lt_or_ge i (n + k) with h2 | h2
    · rw [orbTo_get _ _ _ h2, orbTo_get _ _ _ (by omega), ← iterW_add, show i - n + n = i by omega]
    · rw [List.getElem?_eq_none (by rw [orbTo_length]; omega), List.getElem?_eq_none (by rw [orbTo_length]; omega)]
theorem orbTo_take {x : Int} {n a : Nat} (ha : a ≤ n) : (orbTo m t p x n).take a = orbTo m t p x a := by
  obtain ⟨k, rfl⟩ := Nat.le.dest ha
  rw [orbTo_add, List.take_left' (orbTo_length ..)]

/-- What Cycle has found. -/
structure Found (m : Int) (t p : List Int) (x : Int) (steps : Int) (n j : Nat) : Prop where
  nodup : (orbTo m t p x n).Nodup
  small : ∀ i, i < n → smallB (iterW m t p i x) = true
  lt : j < n
  back : iterW m t p n x = iterW m t p j x
  le : (n : Int) ≤ steps
theorem posOf_idx {xs : List Int} {y : Int} {j : Nat} (hn : xs.Nodup) (h : xs[j]? = some y) : posOf xs y = some (j : Int) := by
  obtain ⟨hj, e⟩ := List.getElem?_eq_some_iff.1 h
  unfold posOf
  rw [if_pos (by rw [← e]; exact List.getElem_mem hj), ← e, hn.idxOf_getElem]
theorem cycGo_found (steps : Int) : ∀ f (x : Int) (n : Nat), (orbTo m t p x n).Nodup → (∀ i, i < n → smallB (iterW m t p i x) = true) → ∀ cy at', cycGo m t p steps f (orbTo m t p x n) (iterW m t p n x) = (cy, at', 0) → ∃ n' j, Found m t p x steps n' j ∧ at' = (j : Int) ∧ cy = writtenL ((orbTo m t p x n').drop j) := by
  intro f
  induction f with
  | zero => intro x n _ _ cy at' h; simp [cycGo] at h
  | succ f ih =>
    intro x n hn hs cy at' h
    rw [cycGo] at h
    split at h
    · simp at h
    · rename_i hst
      split at h
      · rename_i hsm
        split at h
        · rename_i k hk
          simp only [Prod.mk.injEq, and_true] at h
          obtain ⟨rfl, rfl⟩ := h
          obtain ⟨k0, k1, j, rfl, k2, k3⟩ := posOf_some hk
          rw [orbTo_length] at k2 hst
          rw [orbTo_get x n j k2] at k3
          exact ⟨n, j, ⟨hn, hs, k2, (Option.some.inj k3).symm, by omega⟩, rfl, by rw [Int.toNat_natCast]⟩
        · rename_i hk
          have hno := posOf_none hk
          rw [← iterW_succ, ← orbTo_succ] at h
          refine ih x (n + 1) ?_ ?_ cy at' h
          · rw [orbTo_succ, List.nodup_append]
            exact ⟨hn, by simp, fun a ha b hb => by rw [List.mem_singleton] at hb; subst hb; intro e; subst e; exact hno ha⟩
          · intro i hi
            by_cases e : i = n
            · rw [e]; exact hsm
            · exact hs i (by omega)
      · simp at h
theorem cycleW_found {x steps : Int} {cy : List Int} {at' : Int} (h : cycleW m t p x steps = (cy, at', 0)) : ∃ n j, Found m t p x steps n j ∧ at' = (j : Int) ∧ cy = writtenL ((orbTo m t p x n).drop j) :=
  cycGo_found steps 503 x 0 (by simp [orbTo]) (by omega) cy at' h
theorem cycleW_of {x steps : Int} {n j : Nat} (h : Found m t p x steps n j) (hs : steps ≤ 500) : cycleW m t p x steps = (writtenL ((orbTo m t p x n).drop j), (j : Int), 0) := by
  have hgo := cycGo_to m t p x steps n h.nodup h.small (by have := h.le; omega) 503 (by have := h.le; omega)
  unfold cycleW
  have hle := h.le
  rw [hgo, show 503 - n = (502 - n) + 1 by omega, cycGo, if_neg (by rw [orbTo_length]; omega), h.back, if_pos (h.small j h.lt), posOf_idx h.nodup (orbTo_get x n j h.lt)]
  rfl

/-- The numbers of a cycle. -/
structure CycOf (m : Int) (t p : List Int) (y : Int) (K : Nat) : Prop where
  pos : 0 < K
  nodup : (orbTo m t p y K).Nodup
  small : ∀ i, smallB (iterW m t p i y) = true
  back : iterW m t p K y = y
theorem CycOf.mul {y : Int} {K : Nat} (hb : iterW m t p K y = y) (q : Nat) : iterW m t p (K * q) y = y := by
  induction q with
  | zero => rfl
  | succ q ih => rw [Nat.mul_succ, iterW_add, hb, ih]
theorem CycOf.mod {y : Int} {K : Nat} (h0 : 0 < K) (hb : iterW m t p K y = y) (i : Nat) : iterW m t p i y = iterW m t p (i % K) y := by
  conv => lhs; rw [← Nat.mod_add_div i K, iterW_add, CycOf.mul hb]
theorem CycOf.inj {y : Int} {K : Nat} (h : CycOf m t p y K) {a b : Nat} (ha : a < K) (hb : b < K) (e : iterW m t p a y = iterW m t p b y) : a = b := by
  have h1 := orbTo_get (m := m) (t := t) (p := p) y K a ha
  have h2 := orbTo_get (m := m) (t := t) (p := p) y K b hb
  rw [e] at h1
  have hl := orbTo_length m t p y K
  exact (List.getElem?_inj (i := a) (by rw [hl]; exact ha) h.nodup).1 (h1.trans h2.symm)
/-- Turned on by a number of steps it is the same cycle. -/
theorem CycOf.turn {y : Int} {K : Nat} (h : CycOf m t p y K) (a : Nat) : CycOf m t p (iterW m t p a y) K := by
  refine ⟨h.pos, ?_, fun i => by rw [← iterW_add]; exact h.small _, ?_⟩
  · refine List.pairwise_iff_getElem.2 (fun i j hi hj hij e => ?_)
    rw [orbTo_length] at hj
    have ei : (orbTo m t p (iterW m t p a y) K)[i] = iterW m t p (i + a) y := by rw [iterW_add]; simp [orbTo]
    have ej : (orbTo m t p (iterW m t p a y) K)[j] = iterW m t p (j + a) y := by rw [iterW_add]; simp [orbTo]
    rw [ei, ej] at e
    rw [CycOf.mod h.pos h.back (i + a), CycOf.mod h.pos h.back (j + a)] at e
    have := h.inj (Nat.mod_lt _ h.pos) (Nat.mod_lt _ h.pos) e
    have h1 := Nat.div_add_mod (i + a) K
    have h2 := Nat.div_add_mod (j + a) K
    rw [this] at h1
    have h3 : K * ((i + a) / K) + (j - i) = K * ((j + a) / K) := by omega
    have h4 : (i + a) / K < (j + a) / K := by
      rcases Nat.lt_or_ge ((i + a) / K) ((j + a) / K) with h | h
      · exact h
      · have := Nat.mul_le_mul_left K h; omega
    have h5 := Nat.mul_le_mul_left K h4
    rw [Nat.mul_succ] at h5
    omega
  · rw [← iterW_add, Nat.add_comm, iterW_add, h.back]
theorem Found.cyc {x steps : Int} {n j : Nat} (h : Found m t p x steps n j) : CycOf m t p (iterW m t p j x) (n - j) := by
  have hlt := h.lt
  have hb : iterW m t p (n - j) (iterW m t p j x) = iterW m t p j x := by rw [← iterW_add, show n - j + j = n by omega, h.back]
  refine ⟨by omega, ?_, fun i => ?_, hb⟩
  · rw [← orbTo_drop]; exact (List.drop_sublist _ _).nodup h.nodup
  · rw [CycOf.mod (by omega) hb, ← iterW_add]
    exact h.small _ (by have := Nat.mod_lt i (show 0 < n - j by omega); omega)
theorem CycOf.found {y : Int} {K : Nat} (h : CycOf m t p y K) {steps : Int} (hs : (K : Int) ≤ steps) : Found m t p y steps K 0 :=
  ⟨h.nodup, fun i _ => h.small i, h.pos, h.back, hs⟩
/-- A cycle as it is written begins with its smallest number. -/
theorem written_orb {y : Int} {K : Nat} (h : CycOf m t p y K) : ∃ a, a < K ∧ minAt (orbTo m t p y K) = a ∧ writtenL (orbTo m t p y K) = orbTo m t p (iterW m t p a y) K ∧ ∀ i, iterW m t p a y ≤ iterW m t p i y := by
  have hl := orbTo_length m t p y K
  have h0 := h.pos
  obtain ⟨m1, m2, m3⟩ := minAt_spec (orbTo m t p y K) (by omega)
  rw [hl] at m1
  have hrd : ∀ i, i < K → rd (orbTo m t p y K) (i : Int) = iterW m t p i y := fun i hi => by
    rw [rd, Int.toNat_natCast, List.getD_eq_getElem?_getD, orbTo_get y K i hi]; rfl
  refine ⟨minAt (orbTo m t p y K), m1, rfl, ?_, fun i => ?_⟩
  · unfold writtenL
    generalize minAt (orbTo m t p y K) = a at *
    rw [orbTo_drop, orbTo_take (by omega)]
    have e := orbTo_add (m := m) (t := t) (p := p) (iterW m t p a y) (K - a) a
    rw [← iterW_add, show K - a + a = K by omega, h.back] at e
    exact e.symm
  · rw [CycOf.mod h.pos h.back i]
    have hi := Nat.mod_lt i h.pos
    have := minL_le (orbTo m t p y K) (i % K) (by omega)
    rw [hrd _ hi] at this
    rw [hrd _ m1] at m2
    omega
end Go.Proofs.Ytkjojcepombhpaa.L
