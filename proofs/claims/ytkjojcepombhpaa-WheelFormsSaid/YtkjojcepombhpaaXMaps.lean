/- Maps that a call makes: a set of numbers, numbers by numbers. What a look-up and a store do. -/
import Derived.Test.YtkjojcepombhpaaXGives
import Derived.Maps.OwnSet
import Derived.Maps.OwnIn
namespace Go.Proofs.Ytkjojcepombhpaa.L
set_option linter.unusedVariables false
set_option linter.unusedSimpArgs false
open Go.RowKit Go.Shelf Go.Maps Go.Proofs.YtkjojcepombhpaaW.PrintWords Go.Proofs.YtkjojcepombhpaaW.PrintLast Go.Proofs.YtkjojcepombhpaaW.PrintMore

/-- Block b of W is a map made by the call, whose keys are the numbers xs. -/
def SetIs (W : World) (b : Nat) (xs : List Int) : Prop :=
  ∃ D : DataW Unit, W.ownsMap Try.prog 3 (plainElem (H := Unit) Try.prog 4) b xs.length D ∧ ∀ v z, D.atKey (.int .i64 v) z = if v ∈ xs then .lit (.bool true) else z
theorem SetIs.new (w : World) : SetIs (w.alloc (.map #[] 0)) w.heap.size [] :=
  ⟨.map [], World.ownsMap_made w Try.prog 3 _, fun v z => by simp [DataW.atKey]⟩
theorem SetIs.lt {W : World} {b : Nat} {xs : List Int} (h : SetIs W b xs) : b < W.heap.size := by obtain ⟨D, h, _⟩ := h; exact h.lt
theorem SetIs.kept {W W' : World} {b : Nat} {xs : List Int} {row : Option Nat} (h : SetIs W b xs) (hg : W.grownBy W' row) (hne : some b ≠ row) : SetIs W' b xs := by
  obtain ⟨D, h, hD⟩ := h
  exact ⟨D, h.kept hg hne, hD⟩
theorem wf_small {v : Int} (h : smallB v = true) : (Lit.int .i64 v).wf = true := by
  simp only [smallB, inB, Bool.and_eq_true, decide_eq_true_eq] at h
  have e1 : IntKind.i64.min = -9223372036854775808 := rfl
  have e2 : IntKind.i64.max = 9223372036854775807 := rfl
  simp only [Lit.wf, e1, e2, Bool.and_eq_true, decide_eq_true_eq]
  omega
theorem under79 : Try.prog.underlying 79 = some (.map 3 4) := by kernel_rfl
theorem key_i64 (v : Int) : WideAt.IsKeyLit (.int .i64 v) := by trivial
theorem lit_ne {v y : Int} (h : v ≠ y) : (Lit.int .i64 v) ≠ (Lit.int .i64 y) := by
  intro e
  injection e with _ e2
  exact h e2
/-- A look-up, its run being known. -/
theorem wpListIn_lookup_run {F : Fence} {nF : Nat} {P : Program} {w : World} {ops : Array Oper} {rest : List Oper} {o : Oper} {a : Act} {Q : Exit → Act → World → Prop} (hg : o.guard = none) (m x : Operand) (t : TypeId) {ok : Bool} (hop : o.op = Op.lookup t m x ok)
    {mv key v : Value} (hm : a.eval m = mv) (hx : a.eval x = key) (hrun : (Instr.lookup t mv key ok).run P w = .ok v w) (hK : wpListIn F nF P ops Q rest (a.put o.dst v) w) :
    wpListIn F nF P ops Q (o :: rest) a w := by
  refine wpListIn_plain hg fun K' hK' => ?_
  unfold Oper.wpIn
  refine ⟨by simp [Oper.about, hop], ?_⟩
  rw [Oper.semAt_plain F _ _ (by rw [hop]; intro c hc'; cases hc')]
  simp [execOp, hop, hm, hx, hrun, Result.andThen]
  exact hK' _ _ hK
theorem SetIs.look {W : World} {b : Nat} {xs : List Int} (h : SetIs W b xs) (v : Int) (hv : (Lit.int .i64 v).wf = true) : (Instr.lookup 79 (.map (some b)) (.int .i64 v) false).run Try.prog W = .ok (.bool (xs.contains v)) W := by
  obtain ⟨D, h, hD⟩ := h
  have hz : (zeroValue 4).run Try.prog W = .ok (.bool false) W := by kernel_rfl
  obtain ⟨u, ps, hrun, hu⟩ := h.lookup (Maps.int_keyed Try.underlying3) under79 hz (plainElem_bool Try.underlying4 false) (Maps.keyOf_int_mk Try.underlying3 hv)
  rw [hrun]
  rw [hD] at hu
  have hb : ∀ q : Bool, plainElem (H := Unit) Try.prog 4 u = some (.lit (.bool q), ps) → u = .bool q := by
    intro q hq
    have hk := Try.underlying4
    generalize Try.prog = P at hk hq
    unfold plainElem at hq
    rw [hk] at hq
    cases u <;> simp at hq
    obtain ⟨rfl, _⟩ := hq
    rfl
  by_cases hm : v ∈ xs
  · rw [if_pos hm] at hu
    rw [hb _ hu, List.contains_iff_mem.2 hm]
  · rw [if_neg hm] at hu
    rw [hb _ hu]
    have : xs.contains v = false := by
      rw [Bool.eq_false_iff]
      intro hc
      exact hm (List.contains_iff_mem.1 hc)
    rw [this]
theorem SetIs.put {W : World} {b : Nat} {xs : List Int} (h : SetIs W b xs) (y : Int) (hv : (Lit.int .i64 y).wf = true) (hl : xs.length < 100000) : ∃ w', (Instr.mapUpdate 79 (.map (some b)) (.int .i64 y) (.bool true)).run Try.prog W = .ok () w' ∧ SetIs w' b (xs ++ [y]) ∧ W.grownBy w' (some b) := by
  obtain ⟨D, h, hD⟩ := h
  obtain ⟨w', r1, r2, r3⟩ := h.update (Maps.int_keyed Try.underlying3) under79 (by unfold maxLen; omega) (Maps.keyOf_int_mk Try.underlying3 hv) (plainElem_bool Try.underlying4 true)
  refine ⟨w', r1, ⟨_, by rw [List.length_append]; exact r2, fun v z => ?_⟩, r3⟩
  by_cases e : v = y
  · subst e
    rw [Maps.atKey_put_same h.isMap (key_i64 v), if_pos (by simp)]
  · rw [Maps.atKey_put_other (lit_ne e), hD]
    simp [e]
/-- A store in a map, its run being known. -/
theorem wpListIn_mapUpdate_run {F : Fence} {nF : Nat} {P : Program} {w w' : World} {ops : Array Oper} {rest : List Oper} {o : Oper} {a : Act} {Q : Exit → Act → World → Prop} (hg : o.guard = none) (m x v : Operand) (t : TypeId) (hop : o.op = Op.mapUpdate t m x v)
    {mv key val : Value} (hm : a.eval m = mv) (hx : a.eval x = key) (hv : a.eval v = val) (hrun : (Instr.mapUpdate t mv key val).run P w = .ok () w') (hK : wpListIn F nF P ops Q rest (a.put o.dst undef) w') :
    wpListIn F nF P ops Q (o :: rest) a w := by
  refine wpListIn_plain hg fun K' hK' => ?_
  unfold Oper.wpIn
  refine ⟨by simp [Oper.about, hop], ?_⟩
  rw [Oper.semAt_plain F _ _ (by rw [hop]; intro c hc'; cases hc')]
  simp [execOp, hop, hm, hx, hv, hrun, Result.andThen]
  exact hK' _ _ hK

/-- Block b of W is a map made by the call: numbers by numbers, f. -/
def NumsIs (W : World) (b n : Nat) (f : Int → Option Int) : Prop :=
  ∃ D : DataW Unit, W.ownsMap Try.prog 3 (plainElem (H := Unit) Try.prog 3) b n D ∧ ∀ v z, D.atKey (.int .i64 v) z = match f v with | some y => .lit (.int .i64 y) | none => z
theorem NumsIs.new (w : World) : NumsIs (w.alloc (.map #[] 0)) w.heap.size 0 (fun _ => none) :=
  ⟨.map [], World.ownsMap_made w Try.prog 3 _, fun v z => by simp [DataW.atKey]⟩
theorem NumsIs.lt {W : World} {b n : Nat} {f : Int → Option Int} (h : NumsIs W b n f) : b < W.heap.size := by obtain ⟨D, h, _⟩ := h; exact h.lt
theorem NumsIs.kept {W W' : World} {b n : Nat} {f : Int → Option Int} {row : Option Nat} (h : NumsIs W b n f) (hg : W.grownBy W' row) (hne : some b ≠ row) : NumsIs W' b n f := by
  obtain ⟨D, h, hD⟩ := h
  exact ⟨D, h.kept hg hne, hD⟩
theorem NumsIs.look {W : World} {b n : Nat} {f : Int → Option Int} (h : NumsIs W b n f) {t : TypeId} (ht : Try.prog.underlying t = some (.map 3 3)) (v : Int) (hv : (Lit.int .i64 v).wf = true) : (Instr.lookup t (.map (some b)) (.int .i64 v) true).run Try.prog W = .ok (.tuple #[.int .i64 ((f v).getD 0), .bool (f v).isSome]) W := by
  obtain ⟨D, h, hD⟩ := h
  have hz : (zeroValue 3).run Try.prog W = .ok (.int .i64 0) W := by kernel_rfl
  obtain ⟨u, ps, hrun, hu⟩ := h.look_ok (Maps.int_keyed Try.underlying3) ht hz (plainElem_int Try.underlying3 (a := 0) (by decide)) (Maps.keyOf_int_mk Try.underlying3 hv)
  rw [hrun]
  obtain ⟨c, rfl, hc, _⟩ := plainElem_int_inv Try.underlying3 hu
  have hc := congrArg Prod.fst hc
  simp only at hc
  rw [hD] at hc
  cases hf : f v with
  | none =>
    rw [hf] at hc
    have h1 : Maps.has D (.int .i64 v) = false := Maps.has_false_of_atKey (fun z => by rw [hD, hf])
    rw [h1]
    simp only [DataW.lit.injEq, Lit.int.injEq, true_and] at hc
    simp [← hc]
  | some y =>
    rw [hf] at hc
    have h1 : Maps.has D (.int .i64 v) = true := Maps.has_true_of_atKey (fun z => by rw [hD, hf])
    rw [h1]
    simp only [DataW.lit.injEq, Lit.int.injEq, true_and] at hc
    simp [← hc]
theorem NumsIs.put {W : World} {b n : Nat} {f : Int → Option Int} (h : NumsIs W b n f) {t : TypeId} (ht : Try.prog.underlying t = some (.map 3 3)) (y u : Int) (hv : (Lit.int .i64 y).wf = true) (hu : (Lit.int .i64 u).wf = true) (hl : n < 100000) :
    ∃ w', (Instr.mapUpdate t (.map (some b)) (.int .i64 y) (.int .i64 u)).run Try.prog W = .ok () w' ∧ NumsIs w' b (n + 1) (fun v => if v = y then some u else f v) ∧ W.grownBy w' (some b) := by
  obtain ⟨D, h, hD⟩ := h
  obtain ⟨w', r1, r2, r3⟩ := h.update (Maps.int_keyed Try.underlying3) ht (by unfold maxLen; omega) (Maps.keyOf_int_mk Try.underlying3 hv) (plainElem_int Try.underlying3 hu)
  refine ⟨w', r1, ⟨_, r2, fun v z => ?_⟩, r3⟩
  by_cases e : v = y
  · subst e
    rw [Maps.atKey_put_same h.isMap (key_i64 v)]
    simp
  · rw [Maps.atKey_put_other (lit_ne e), hD]
    simp [e]
end Go.Proofs.Ytkjojcepombhpaa.L
