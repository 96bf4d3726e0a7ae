/- Plain law: the whole cycles of a length. -/
import Derived.Test.YtkjojcepombhpaaN4
import Derived.Test.YtkjojcepombhpaaN3
import Derived.Test.YtkjojcepombhpaaL8i
namespace Go.Proofs.Ytkjojcepombhpaa.L
set_option linter.unusedVariables false
set_option linter.unusedSimpArgs false
open Go.RowKit Go.Proofs.YtkjojcepombhpaaW.PrintWords Go.Proofs.YtkjojcepombhpaaW.PrintLast Go.Proofs.YtkjojcepombhpaaW.PrintMore

variable {m : Int} {t p : List Int}
/-- The form of a course sends a number where its steps do. -/
theorem form_law (h : RuleIs m t p) (x : Int) : ∀ K : Nat, (formW m t p (remW m t p x K)).1 * x + (formW m t p (remW m t p x K)).2.1 = (formW m t p (remW m t p x K)).2.2 * iterW m t p K x := by
  intro K
  induction K with
  | zero => simp [remW, formW, iterW]
  | succ K ih =>
    rw [remW_succ, formW_snoc, iterW_succ]
    obtain ⟨⟨a, b, d⟩, hs⟩ : ∃ s, formW m t p (remW m t p x K) = s := ⟨_, rfl⟩
    rw [hs] at ih ⊢
    simp only [formStep] at ih ⊢
    obtain ⟨z, hz⟩ : ∃ z, iterW m t p K x = z := ⟨_, rfl⟩
    rw [hz] at ih ⊢
    have e : d * m * sentW m t p z = d * (rd t (z % m) * z + rd p (z % m)) := by rw [Int.mul_assoc, h.mul]
    rw [e, Int.mul_add]
    generalize rd t (z % m) = u
    generalize rd p (z % m) = v
    have e1 : a * u * x = u * (a * x) := by rw [Int.mul_comm a u, Int.mul_assoc]
    have e2 : d * (u * z) = u * (d * z) := by rw [← Int.mul_assoc, Int.mul_comm d u, Int.mul_assoc]
    rw [e1, e2, ← ih, Int.mul_add, Int.mul_comm v d, Int.mul_comm b u]
    omega
theorem fix_of {a b d y : Int} (hb : b = (d - a) * y) (hne : a ≠ d) : fixNum a b d = y ∧ fixDen a b d = 1 := by
  have hg : (Int.gcd b (d - a) : Int) = if d - a < 0 then -(d - a) else d - a := by
    have h1 : Int.gcd b (d - a) = (d - a).natAbs := by
      rw [hb, Int.gcd_comm]
      exact Int.gcd_mul_right_right _ _ |>.trans rfl
    rw [h1]
    split <;> omega
  unfold fixNum fixDen
  rw [hg]
  by_cases hn : d - a < 0
  · rw [if_pos hn, if_pos hn]
    refine ⟨?_, Int.ediv_self (by omega)⟩
    rw [hb, ← Int.neg_mul, Int.mul_ediv_cancel_left _ (by omega)]
  · rw [if_neg hn, if_neg hn]
    refine ⟨?_, Int.ediv_self (by omega)⟩
    rw [hb, Int.mul_ediv_cancel_left _ (by omega)]

def insU (v : Int) : List Int → List Int
  | [] => [v]
  | x :: xs => if v < x then v :: x :: xs else if v = x then x :: xs else x :: insU v xs
theorem insU_mem (v : Int) (xs : List Int) : ∀ y, y ∈ insU v xs ↔ y = v ∨ y ∈ xs := by
  induction xs with
  | nil => intro y; simp [insU]
  | cons x xs ih =>
    intro y
    unfold insU
    split
    · simp
    · split
      · rename_i h; subst h; simp
      · rw [List.mem_cons, ih, List.mem_cons]
        constructor
        · rintro (h | h | h) <;> simp [h]
        · rintro (h | h | h) <;> simp [h]
theorem insU_sorted (v : Int) (xs : List Int) (h : xs.Pairwise (· < ·)) : (insU v xs).Pairwise (· < ·) := by
  induction xs with
  | nil => simp [insU]
  | cons x xs ih =>
    unfold insU
    rw [List.pairwise_cons] at h
    split
    · rename_i hv
      rw [List.pairwise_cons, List.pairwise_cons]
      refine ⟨fun y hy => ?_, h⟩
      rcases List.mem_cons.1 hy with rfl | hy
      · exact hv
      · have := h.1 y hy; omega
    · split
      · rw [List.pairwise_cons]; exact h
      · rename_i h1 h2
        rw [List.pairwise_cons]
        refine ⟨fun y hy => ?_, ih h.2⟩
        rcases (insU_mem v xs y).1 hy with rfl | hy
        · omega
        · exact h.1 y hy
theorem insU_length (v : Int) (xs : List Int) : (insU v xs).length ≤ xs.length + 1 := by
  induction xs with
  | nil => simp [insU]
  | cons x xs ih => 
    unfold insU
    split
    · simp
    · split
      · simp
      · simp only [List.length_cons]; omega
theorem sorted_unique (a b : List Int) (ha : a.Pairwise (· < ·)) (hb : b.Pairwise (· < ·)) (h : ∀ y, y ∈ a ↔ y ∈ b) : a = b := by
  have hp : a.Perm b := (List.perm_ext_iff_of_nodup (ha.imp (fun h e => by omega)) (hb.imp (fun h e => by omega))).2 h
  exact hp.eq_of_pairwise (fun x y _ _ h1 h2 => by omega) ha hb
theorem insert_l0 (xs : List Int) (v : Int) (hl : xs.length ≤ 100000) : ∀ d i : Nat, i + d = xs.length → insU v xs = xs.take i ++ insU v (xs.drop i) → ∃ q b, Ev (fun k => remouldref06_insert.l0 k xs v (i : Int)) (insU v xs, q, b) := by
  intro d
  induction d with
  | zero =>
    intro i hi he
    have e2 : xs.drop i = [] := List.drop_eq_nil_of_le (by omega)
    rw [e2] at he
    refine ⟨(i : Int), true, Ev.step (h := fun _ => some (insU v xs, (i : Int), true)) (fun k => ?_) (Ev.const _)⟩
    rw [remouldref06_insert.l0, if_neg (by omega), if_pos (by omega), if_pos (by omega), Option.bind_some, if_pos (by simp; omega), Option.bind_some, if_pos (by simp; omega), Option.bind_some, Option.bind_some, if_pos (by simp; omega), Int.toNat_natCast, e2, he]
    simp [insU]
  | succ d ih =>
    intro i hi he
    have hg : rd xs (i : Int) = xs[i] := rd_get xs i (by omega)
    have hdr : xs.drop i = xs[i] :: xs.drop (i + 1) := (List.getElem_cons_drop (by omega)).symm
    by_cases h1 : rd xs (i : Int) < v
    · obtain ⟨q, b, hh⟩ := ih (i + 1) (by omega) (by
        rw [he, hdr]
        have : insU v (xs[i] :: xs.drop (i + 1)) = xs[i] :: insU v (xs.drop (i + 1)) := by
          rw [insU, if_neg (by omega), if_neg (by omega)]
        rw [this, List.take_succ_eq_append_getElem (by omega), List.append_assoc]
        rfl)
      exact ⟨q, b, Ev.step (fun k => by rw [remouldref06_insert.l0, if_pos (by omega), if_pos (by omega), if_pos h1, succ_id i (by omega)]) hh⟩
    · by_cases h2 : rd xs (i : Int) = v
      · have e3 : insU v (xs.drop i) = xs.drop i := by
          rw [hdr, insU, if_neg (by omega), if_pos (by omega)]
        rw [e3, List.take_append_drop] at he
        refine ⟨(i : Int), false, Ev.step (h := fun _ => some (insU v xs, (i : Int), false)) (fun k => ?_) (Ev.const _)⟩
        rw [remouldref06_insert.l0, if_pos (by omega), if_pos (by omega), if_neg h1, if_pos h2, he]
      · have e3 : insU v (xs.drop i) = v :: xs.drop i := by
          rw [hdr, insU, if_pos (by omega)]
        rw [e3] at he
        refine ⟨(i : Int), true, Ev.step (h := fun _ => some (insU v xs, (i : Int), true)) (fun k => ?_) (Ev.const _)⟩
        rw [remouldref06_insert.l0, if_pos (by omega), if_pos (by omega), if_neg h1, if_neg h2, if_pos (by omega), Option.bind_some, if_pos (by simp; omega), Option.bind_some, if_pos (by simp; omega), Option.bind_some, Option.bind_some, if_pos (by simp; omega), Int.toNat_natCast, he]
        simp
theorem insert_f (xs : List Int) (v : Int) (hl : xs.length ≤ 100000) : ∃ q b, Ev (fun k => remouldref06_insert.f k xs v) (insU v xs, q, b) :=
  insert_l0 xs v hl xs.length 0 (by omega) (by simp)
end Go.Proofs.Ytkjojcepombhpaa.L
