/- The walk of (rule).cycle. -/
import Derived.Test.YtkjojcepombhpaaXWritten
namespace Go.Proofs.Ytkjojcepombhpaa.L
set_option linter.unusedVariables false
set_option linter.unusedSimpArgs false
open Go.RowKit Go.Shelf Go.Maps Go.Proofs.YtkjojcepombhpaaW.PrintWords Go.Proofs.YtkjojcepombhpaaW.PrintLast Go.Proofs.YtkjojcepombhpaaW.PrintMore
attribute [local go_sem] Oper.semAt_some

/-- The place of a number in a list. -/
def posOf (xs : List Int) (v : Int) : Option Int := if v ∈ xs then some (xs.idxOf v : Int) else none
theorem posOf_snoc {xs : List Int} {y : Int} (hy : y ∉ xs) (v : Int) : posOf (xs ++ [y]) v = if v = y then some (xs.length : Int) else posOf xs v := by
  unfold posOf
  by_cases e : v = y
  · subst e
    rw [if_pos rfl, if_pos (by simp), List.idxOf_append, if_neg hy]
    simp
  · rw [if_neg e]
    by_cases h : v ∈ xs
    · rw [if_pos h, if_pos (by simp [h]), List.idxOf_append, if_pos h]
    · rw [if_neg h, if_neg (by simp [h, e])]
/-- The cycle to which y comes, what came before being pre. -/
def cycGo (m : Int) (t p : List Int) (steps : Int) : Nat → List Int → Int → List Int × Int × Int
  | 0, _, _ => ([], 0, 6)
  | f + 1, pre, y => if steps < (pre.length : Int) then ([], 0, 6) else if smallB y then (match posOf pre y with | some k => (writtenL (pre.drop k.toNat), k, 0) | none => cycGo m t p steps f (pre ++ [y]) (sentW m t p y)) else ([], 0, 5)
def cycleW (m : Int) (t p : List Int) (x steps : Int) : List Int × Int × Int := cycGo m t p steps 503 [] x
theorem cycGo_to (m : Int) (t p : List Int) (x : Int) (steps : Int) (k : Nat) (hn : (orbTo m t p x k).Nodup) (hs : ∀ i, i < k → smallB (iterW m t p i x) = true) (hk : (k : Int) ≤ steps + 1) (f : Nat) (hf : k ≤ f) :
    cycGo m t p steps f [] x = cycGo m t p steps (f - k) (orbTo m t p x k) (iterW m t p k x) := by
  induction k with
  | zero => rfl
  | succ k ih =>
    rw [orbTo_succ] at hn
    have hn2 := List.nodup_append.1 hn
    rw [ih hn2.1 (fun i hi => hs i (by omega)) (by omega) (by omega)]
    obtain ⟨g, hg⟩ : ∃ g, f - k = g + 1 := ⟨f - k - 1, by omega⟩
    have hno : posOf (orbTo m t p x k) (iterW m t p k x) = none := by
      unfold posOf
      rw [if_neg (fun hc => hn2.2.2 _ hc _ (by simp) rfl)]
    rw [hg, show f - (k + 1) = g by omega, cycGo, if_neg (by rw [orbTo_length]; omega), if_pos (hs k (by omega)), hno, orbTo_succ, iterW_succ]

theorem under102 : Try.prog.underlying 102 = some (.map 3 3) := by kernel_rfl

/-- What holds within a round. -/
def CycV (w : World) (R : Nat) (steps : Int) (rv1 rv2 rv3 v0 v : Value) (xs : List Int) (n : Nat) (f : Int → Option Int) (W : World) : Prop :=
  (Whole W (w.heap.size + 1) 3 #[.int .i64 steps] ∧ Whole W (w.heap.size + 1 + 1) 22 #[rv1] ∧ Whole W (w.heap.size + 1 + 1 + 1) 3 #[rv2] ∧ Whole W (w.heap.size + 1 + 1 + 1 + 1) 26 #[rv3] ∧ Whole W (R + 1) 22 #[v0] ∧ Whole W (R + 1 + 1 + 1) 102 #[.map (some (R + 1 + 1))]) ∧
  RowIs W (R + 1 + 1 + 1 + 1 + 1 + 1) v xs ∧ NumsIs W (R + 1 + 1) n f ∧ Below w.heap.size w W ∧ R + 1 + 1 + 1 + 1 + 1 + 1 ≤ W.heap.size ∧ R = w.heap.size + 1 + 1 + 1 + 1
section
variable {w : World} {R : Nat} {steps : Int} {rv1 rv2 rv3 v0 v : Value} {xs : List Int} {n : Nat} {f : Int → Option Int} {X Y : World} {row : Option Nat} {C : Nat}
theorem CycV.own (h : CycV w R steps rv1 rv2 rv3 v0 v xs n f X) (hg : X.grownBy Y row) (hB : R + 1 + 1 + 1 + 1 + 1 + 1 ≤ C) (hr : ∀ r, row = some r → C ≤ r ∧ ∃ o : Obj, X.heap[r]? = some o ∧ o.isCells = false) : CycV w R steps rv1 rv2 rv3 v0 v xs n f Y := by
  obtain ⟨⟨h1, h2, h3, h3', h4, h6⟩, h5, h7, h8, h9, hA⟩ := h
  have hr2 := fun r e => (hr r e).2
  have hw := fun (B : Nat) (t : TypeId) (cs : Array Value) (h : Whole X B t cs) => whole_own (β := Unit) B t (fun _ => cs) () X Y row h hg hr2
  exact ⟨⟨hw _ _ _ h1, hw _ _ _ h2, hw _ _ _ h3, hw _ _ _ h3', hw _ _ _ h4, hw _ _ _ h6⟩, h5.own hg hr2, h7.kept hg (fun e => by have := (hr _ e.symm).1; omega),
    ownFrom_below (β := Unit) (Nat.le_refl _) (by omega) () X Y row h8 hg hr, Nat.le_trans h9 hg.size, hA⟩
theorem CycV.turn (h : CycV w R steps rv1 rv2 rv3 v0 v xs n f X) {q : Nat} (hg : X.grownBy Y (some q)) (hq : q = R + 1 + 1 + 1 + 1 + 1) : CycV w R steps rv1 rv2 rv3 v0 v xs n f Y := by
  obtain ⟨⟨h1, h2, h3, h3', h4, h6⟩, h5, h7, h8, h9, hA⟩ := h
  subst hq
  exact ⟨⟨h1.grown hg (fun e => by injection e with e; omega), h2.grown hg (fun e => by injection e with e; omega), h3.grown hg (fun e => by injection e with e; omega), h3'.grown hg (fun e => by injection e with e; omega), h4.grown hg (fun e => by injection e with e; omega), h6.grown hg (fun e => by injection e with e; omega)⟩, h5.far hg (by omega), h7.kept hg (fun e => by injection e with e; omega), h8.grown hg h8.size (fun k e => by injection e with e; omega), Nat.le_trans h9 hg.size, hA⟩
theorem CycV.mapped {n' : Nat} {f' : Int → Option Int} (h : CycV w R steps rv1 rv2 rv3 v0 v xs n f X) (hg : X.grownBy Y (some (R + 1 + 1))) (hs : NumsIs Y (R + 1 + 1) n' f') : CycV w R steps rv1 rv2 rv3 v0 v xs n' f' Y := by
  obtain ⟨⟨h1, h2, h3, h3', h4, h6⟩, h5, h7, h8, h9, hA⟩ := h
  exact ⟨⟨h1.grown hg (fun e => by injection e with e; omega), h2.grown hg (fun e => by injection e with e; omega), h3.grown hg (fun e => by injection e with e; omega), h3'.grown hg (fun e => by injection e with e; omega), h4.grown hg (fun e => by injection e with e; omega), h6.grown hg (fun e => by injection e with e; omega)⟩, h5.far hg (by omega), hs, h8.grown hg h8.size (fun k e => by injection e with e; omega), Nat.le_trans h9 hg.size, hA⟩
theorem CycV.append {o : Obj} {v' : Value} {ys : List Int} (h : CycV w R steps rv1 rv2 rv3 v0 v xs n f X) (hg : (X.alloc o).grownBy Y v.ownBlock) (hrow : RowIs Y (R + 1 + 1 + 1 + 1 + 1 + 1) v' ys) : CycV w R steps rv1 rv2 rv3 v0 v' ys n f Y := by
  obtain ⟨⟨h1, h2, h3, h3', h4, h6⟩, h5, h7, h8, h9, hA⟩ := h
  refine ⟨⟨(h1.alloc o).grown hg (h5.ne (by omega)), (h2.alloc o).grown hg (h5.ne (by omega)), (h3.alloc o).grown hg (h5.ne (by omega)), (h3'.alloc o).grown hg (h5.ne (by omega)), (h4.alloc o).grown hg (h5.ne (by omega)), (h6.alloc o).grown hg (h5.ne (by omega))⟩, hrow, (h7.kept (World.grownBy_alloc X o none) (fun e => by cases e)).kept hg (h5.ne (by omega)), (below_alloc h8 o).grown hg (below_alloc h8 o).size (fun k e => by have := (h5.block e).1; omega), ?_, hA⟩
  have := hg.size
  simp at this
  omega
theorem CycV.store (h : CycV w R steps rv1 rv2 rv3 v0 v xs n f X) : CycV w R steps rv1 rv2 rv3 v v xs n f (X.setCell ⟨R + 1, 0, none⟩ v) := by
  obtain ⟨⟨h1, h2, h3, h3', h4, h6⟩, h5, h7, h8, h9, hA⟩ := h
  have hg := setCell_grown X (R + 1) 0 v
  exact ⟨⟨h1.grown hg (fun e => by injection e with e; omega), h2.grown hg (fun e => by injection e with e; omega), h3.grown hg (fun e => by injection e with e; omega), h3'.grown hg (fun e => by injection e with e; omega), by have := h4.set 0 v; simpa using this, h6.grown hg (fun e => by injection e with e; omega)⟩, h5.far hg (by omega), h7.kept hg (fun e => by injection e with e; omega), h8.grown hg h8.size (fun k e => by injection e with e; omega), Nat.le_trans h9 hg.size, hA⟩
theorem CycV.facts (h : CycV w R steps rv1 rv2 rv3 v0 v xs n f X) :
    X.cell? ⟨w.heap.size + 1, 0, none⟩ = some (.int .i64 steps) ∧ (X.cell? ⟨w.heap.size + 1 + 1, 0, none⟩ = some rv1 ∧ X.frozen? ⟨w.heap.size + 1 + 1, 0, none⟩ = false) ∧ (X.cell? ⟨w.heap.size + 1 + 1 + 1, 0, none⟩ = some rv2 ∧ X.frozen? ⟨w.heap.size + 1 + 1 + 1, 0, none⟩ = false) ∧ (X.cell? ⟨w.heap.size + 1 + 1 + 1 + 1, 0, none⟩ = some rv3 ∧ X.frozen? ⟨w.heap.size + 1 + 1 + 1 + 1, 0, none⟩ = false) ∧
    (X.cell? ⟨R + 1, 0, none⟩ = some v0 ∧ X.frozen? ⟨R + 1, 0, none⟩ = false) ∧ X.cell? ⟨R + 1 + 1 + 1, 0, none⟩ = some (.map (some (R + 1 + 1))) ∧ R + 1 + 1 + 1 + 1 + 1 + 1 ≤ X.heap.size := by
  obtain ⟨⟨h1, h2, h3, h3', h4, h6⟩, h5, h7, h8, h9, hA⟩ := h
  exact ⟨h1.one.1, ⟨h2.one.1, h2.one.2.1⟩, ⟨h3.one.1, h3.one.2.1⟩, ⟨h3'.one.1, h3'.one.2.1⟩, ⟨h4.one.1, h4.one.2.1⟩, h6.one.1, h9⟩
end

/-- The results in their blocks. -/
def RetV (w : World) (C : Nat) (v : Value) (k e : Int) (row : List Int) (W : World) : Prop :=
  (Whole W (w.heap.size + 1 + 1) 22 #[v] ∧ Whole W (w.heap.size + 1 + 1 + 1) 3 #[.int .i64 k] ∧ Whole W (w.heap.size + 1 + 1 + 1 + 1) 26 #[.int .i64 e]) ∧ RowIs W C v row ∧ Below w.heap.size w W ∧ w.heap.size + 1 + 1 + 1 + 1 < C
section
variable {w : World} {C : Nat} {v : Value} {k e : Int} {row : List Int} {X Y : World}
theorem RetV.own {rw : Option Nat} {D : Nat} (h : RetV w C v k e row X) (hg : X.grownBy Y rw) (hB : C ≤ D) (hr : ∀ r, rw = some r → D ≤ r ∧ ∃ o : Obj, X.heap[r]? = some o ∧ o.isCells = false) : RetV w C v k e row Y := by
  obtain ⟨⟨h1, h2, h3⟩, h4, h5, h6⟩ := h
  have hr2 := fun r e => (hr r e).2
  have hw := fun (B : Nat) (t : TypeId) (cs : Array Value) (h : Whole X B t cs) => whole_own (β := Unit) B t (fun _ => cs) () X Y rw h hg hr2
  exact ⟨⟨hw _ _ _ h1, hw _ _ _ h2, hw _ _ _ h3⟩, h4.own hg hr2, ownFrom_below (β := Unit) (Nat.le_refl _) (by omega) () X Y rw h5 hg hr, h6⟩
theorem RetV.store {v' : Value} {k' e' : Int} {row' : List Int} (h : RetV w C v k e row X) (hrow : RowIs X C v' row') : RetV w C v' k' e' row' (((X.setCell ⟨w.heap.size + 1 + 1, 0, none⟩ v').setCell ⟨w.heap.size + 1 + 1 + 1, 0, none⟩ (.int .i64 k')).setCell ⟨w.heap.size + 1 + 1 + 1 + 1, 0, none⟩ (.int .i64 e')) := by
  obtain ⟨⟨h1, h2, h3⟩, h4, h5, h6⟩ := h
  have g1 := setCell_grown X (w.heap.size + 1 + 1) 0 v'
  have g2 := setCell_grown (X.setCell ⟨w.heap.size + 1 + 1, 0, none⟩ v') (w.heap.size + 1 + 1 + 1) 0 (.int .i64 k')
  have g3 := setCell_grown ((X.setCell ⟨w.heap.size + 1 + 1, 0, none⟩ v').setCell ⟨w.heap.size + 1 + 1 + 1, 0, none⟩ (.int .i64 k')) (w.heap.size + 1 + 1 + 1 + 1) 0 (.int .i64 e')
  have a1 : Whole (X.setCell ⟨w.heap.size + 1 + 1, 0, none⟩ v') (w.heap.size + 1 + 1) 22 #[v'] := by have := h1.set 0 v'; simpa using this
  have a2 : Whole ((X.setCell ⟨w.heap.size + 1 + 1, 0, none⟩ v').setCell ⟨w.heap.size + 1 + 1 + 1, 0, none⟩ (.int .i64 k')) (w.heap.size + 1 + 1 + 1) 3 #[.int .i64 k'] := by have := (h2.grown g1 (fun e => by injection e with e; omega)).set 0 (.int .i64 k'); simpa using this
  refine ⟨⟨(a1.grown g2 (fun e => by injection e with e; omega)).grown g3 (fun e => by injection e with e; omega), a2.grown g3 (fun e => by injection e with e; omega), ?_⟩, ((hrow.far g1 (by omega)).far g2 (by omega)).far g3 (by omega), Below.setAt (Below.setAt (Below.setAt h5 (by omega) 0 _) (by omega) 0 _) (by omega) 0 _, h6⟩
  have := ((h3.grown g1 (fun e => by injection e with e; omega)).grown g2 (fun e => by injection e with e; omega)).set 0 (.int .i64 e')
  simpa using this
end
theorem CycV.ret {w : World} {R : Nat} {steps : Int} {v0 v : Value} {xs : List Int} {n : Nat} {f : Int → Option Int} {X : World} (h : CycV w R steps (.slice none 0 0) (.int .i64 0) (.int .i64 0) v0 v xs n f X) : RetV w (R + 1 + 1 + 1 + 1 + 1 + 1) (.slice none 0 0) 0 0 [] X :=
  ⟨⟨h.1.2.1, h.1.2.2.1, h.1.2.2.2.1⟩, RowIs.nil _ _, h.2.2.2.1, by have := h.2.2.2.2.2; omega⟩
theorem results_ccc {fn : Func} {a b c : Tmp} (h : fn.results = #[.cell a 22, .cell b 3, .cell c 26]) (tmps : Array Value) (w : World) {p q r : Addr} {v u x : Value} (hp : tmps.getD a undef = .pointer (some p)) (hq : tmps.getD b undef = .pointer (some q)) (hr : tmps.getD c undef = .pointer (some r)) (hv : w.cell? p = some v) (hu : w.cell? q = some u) (hx : w.cell? r = some x) :
    (results fn tmps).run Try.prog w = .ok (.tuple #[v, u, x]) w := by
  have hp' : tmps[a]?.getD undef = .pointer (some p) := by simpa using hp
  have hq' : tmps[b]?.getD undef = .pointer (some q) := by simpa using hq
  have hr' : tmps[c]?.getD undef = .pointer (some r) := by simpa using hr
  have u1 := Try.underlying22
  have u2 := Try.underlying26
  have u3 := Try.underlying3
  simp [results, h, hp', hq', hr', go_sem, hv, hu, hx]
end Go.Proofs.Ytkjojcepombhpaa.L
