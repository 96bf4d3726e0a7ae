import Derived.Test.YtkjojcepombhpaaXWritten

/- The walk of (rule).cycle. -/
namespace Go.Proofs.Ytkjojcepombhpaa.L
set_option linter.unusedVariables false
set_option linter.unusedSimpArgs false
open Go.RowKit Go.Shelf Go.Maps Go.Proofs.YtkjojcepombhpaaW.PrintWords Go.Proofs.YtkjojcepombhpaaW.PrintLast Go.Proofs.YtkjojcepombhpaaW.PrintMore
attribute [local go_sem] Oper.semAt_some

/-- The place of a number in a list. -/
def posOf (xs : List Int) (v : Int) : Option Int := if v ∈ xs then some (xs.idxOf v : Int) else none
theorem posOf_snoc {xs : List Int} {y : Int} (hy : y ∉ xs) (v : Int) : posOf (xs ++ [y]) v = if v = y then some (xs.length : Int) else posOf xs v := by
  unfold posOf
  by_cases e : v = y
  · subst e
    rw [if_pos rfl, if_pos (by simp), List.idxOf_append, if_neg hy]
    simp
  · rw [if_neg e]
    by_cases h : v ∈ xs
    · rw [if_pos h, if_pos (by simp [h]), List.idxOf_append, if_pos h]
    · rw [if_neg h, if_neg (by simp [h, e])]
/-- The cycle to which y comes, what came before being pre. -/
def cycGo (m : Int) (t p : List Int) (steps : Int) : Nat → List Int → Int → List Int × Int × Int
  | 0, _, _ => ([], 0, 6)
  | f + 1, pre, y => if steps < (pre.length : Int) then ([], 0, 6) else if smallB y then (match posOf pre y with | some k => (writtenL (pre.drop k.toNat), k, 0) | none => cycGo m t p steps f (pre ++ [y]) (sentW m t p y)) else ([], 0, 5)
def cycleW (m : Int) (t p : List Int) (x steps : Int) : List Int × Int × Int := cycGo m t p steps 503 [] x
theorem cycGo_to (m : Int) (t p : List Int) (x : Int) (steps : Int) (k : Nat) (hn : (orbTo m t p x k).Nodup) (hs : ∀ i, i < k → smallB (iterW m t p i x) = true) (hk : (k : Int) ≤ steps + 1) (f : Nat) (hf : k ≤ f) :
    cycGo m t p steps f [] x = cycGo m t p steps (f - k) (orbTo m t p x k) (iterW m t p k x) := by
  induction k with
  | zero => rfl
  | succ k ih =>
    rw [orbTo_succ] at hn
    have hn2 := List.nodup_append.1 hn
    rw [ih hn2.1 (fun i hi => hs i (by omega)) (by omega) (by omega)]
    obtain ⟨g, hg⟩ : ∃ g, f - k = g + 1 := ⟨f - k - 1, by omega⟩
    have hno : posOf (orbTo m t p x k) (iterW m t p k x) = none := by
      unfold posOf
      rw [if_neg (fun hc => hn2.2.2 _ hc _ (by simp) rfl)]
    rw [hg, show f - (k + 1) = g by omega, cycGo, if_neg (by rw [orbTo_length]; omega), if_pos (hs k (by omega)), hno, orbTo_succ, iterW_succ]

theorem under102 : Try.prog.underlying 102 = some (.map 3 3) := by kernel_rfl

/-- What holds within a round. -/
def CycV (w : World) (R : Nat) (steps : Int) (rv1 rv2 rv3 v0 v : Value) (xs : List Int) (n : Nat) (f : Int → Option Int) (W : World) : Prop :=
  (Whole W (w.heap.size + 1) 3 #[.int .i64 steps] ∧ Whole W (w.heap.size + 1 + 1) 22 #[rv1] ∧ Whole W (w.heap.size + 1 + 1 + 1) 3 #[rv2] ∧ Whole W (w.heap.size + 1 + 1 + 1 + 1) 26 #[rv3] ∧ Whole W (R + 1) 22 #[v0] ∧ Whole W (R + 1 + 1 + 1) 102 #[.map (some (R + 1 + 1))]) ∧
  RowIs W (R + 1 + 1 + 1 + 1 + 1 + 1) v xs ∧ NumsIs W (R + 1 + 1) n f ∧ Below w.heap.size w W ∧ R + 1 + 1 + 1 + 1 + 1 + 1 ≤ W.heap.size ∧ R = w.heap.size + 1 + 1 + 1 + 1
section
variable {w : World} {R : Nat} {steps : Int} {rv1 rv2 rv3 v0 v : Value} {xs : List Int} {n : Nat} {f : Int → Option Int} {X Y : World} {row : Option Nat} {C : Nat}
theorem CycV.own (h : CycV w R steps rv1 rv2 rv3 v0 v xs n f X) (hg : X.grownBy Y row) (hB : R + 1 + 1 + 1 + 1 + 1 + 1 ≤ C) (hr : ∀ r, row = some r → C ≤ r ∧ ∃ o : Obj, X.heap[r]? = some o ∧ o.isCells = false) : CycV w R steps rv1 rv2 rv3 v0 v xs n f Y := by
  obtain ⟨⟨h1, h2, h3, h3', h4, h6⟩, h5, h7, h8, h9, hA⟩ := h
  have hr2 := fun r e => (hr r e).2
  have hw := fun (B : Nat) (t : TypeId) (cs : Array Value) (h : Whole X B t cs) => whole_own (β := Unit) B t (fun _ => cs) () X Y row h hg hr2
  exact ⟨⟨hw _ _ _ h1, hw _ _ _ h2, hw _ _ _ h3, hw _ _ _ h3', hw _ _ _ h4, hw _ _ _ h6⟩, h5.own hg hr2, h7.kept hg (fun e => by have := (hr _ e.symm).1; omega),
    ownFrom_below (β := Unit) (Nat.le_refl _) (by omega) () X Y row h8 hg hr, Nat.le_trans h9 hg.size, hA⟩
theorem CycV.turn (h : CycV w R steps rv1 rv2 rv3 v0 v xs n f X) {q : Nat} (hg : X.grownBy Y (some q)) (hq : q = R + 1 + 1 + 1 + 1 + 1) : CycV w R steps rv1 rv2 rv3 v0 v xs n f Y := by
  obtain ⟨⟨h1, h2, h3, h3', h4, h6⟩, h5, h7, h8, h9, hA⟩ := h
  subst hq
  exact ⟨⟨h1.grown hg (fun e => by injection e with e; omega), h2.grown hg (fun e => by injection e with e; omega), h3.grown hg (fun e => by injection e with e; omega), h3'.grown hg (fun e => by injection e with e; omega), h4.grown hg (fun e => by injection e with e; omega), h6.grown hg (fun e => by injection e with e; omega)⟩, h5.far hg (by omega), h7.kept hg (fun e => by injection e with e; omega), h8.grown hg h8.size (fun k e => by injection e with e; omega), Nat.le_trans h9 hg.size, hA⟩
theorem CycV.mapped {n' : Nat} {f' : Int → Option Int} (h : CycV w R steps rv1 rv2 rv3 v0 v xs n f X) (hg : X.grownBy Y (some (R + 1 + 1))) (hs : NumsIs Y (R + 1 + 1) n' f') : CycV w R steps rv1 rv2 rv3 v0 v xs n' f' Y := by
  obtain ⟨⟨h1, h2, h3, h3', h4, h6⟩, h5, h7, h8, h9, hA⟩ := h
  exact ⟨⟨h1.grown hg (fun e => by injection e with e; omega), h2.grown hg (fun e => by injection e with e; omega), h3.grown hg (fun e => by injection e with e; omega), h3'.grown hg (fun e => by injection e with e; omega), h4.grown hg (fun e => by injection e with e; omega), h6.grown hg (fun e => by injection e with e; omega)⟩, h5.far hg (by omega), hs, h8.grown hg h8.size (fun k e => by injection e with e; omega), Nat.le_trans h9 hg.size, hA⟩
theorem CycV.append {o : Obj} {v' : Value} {ys : List Int} (h : CycV w R steps rv1 rv2 rv3 v0 v xs n f X) (hg : (X.alloc o).grownBy Y v.ownBlock) (hrow : RowIs Y (R + 1 + 1 + 1 + 1 + 1 + 1) v' ys) : CycV w R steps rv1 rv2 rv3 v0 v' ys n f Y := by
  obtain ⟨⟨h1, h2, h3, h3', h4, h6⟩, h5, h7, h8, h9, hA⟩ := h
  refine ⟨⟨(h1.alloc o).grown hg (h5.ne (by omega)), (h2.alloc o).grown hg (h5.ne (by omega)), (h3.alloc o).grown hg (h5.ne (by omega)), (h3'.alloc o).grown hg (h5.ne (by omega)), (h4.alloc o).grown hg (h5.ne (by omega)), (h6.alloc o).grown hg (h5.ne (by omega))⟩, hrow, (h7.kept (World.grownBy_alloc X o none) (fun e => by cases e)).kept hg (h5.ne (by omega)), (below_alloc h8 o).grown hg (below_alloc h8 o).size (fun k e => by have := (h5.block e).1; omega), ?_, hA⟩
  have := hg.size
  simp at this
  omega
theorem CycV.store (h : CycV w R steps rv1 rv2 rv3 v0 v xs n f X) : CycV w R steps rv1 rv2 rv3 v v xs n f (X.setCell ⟨R + 1, 0, none⟩ v) := by
  obtain ⟨⟨h1, h2, h3, h3', h4, h6⟩, h5, h7, h8, h9, hA⟩ := h
  have hg := setCell_grown X (R + 1) 0 v
  exact ⟨⟨h1.grown hg (fun e => by injection e with e; omega), h2.grown hg (fun e => by injection e with e; omega), h3.grown hg (fun e => by injection e with e; omega), h3'.grown hg (fun e => by injection e with e; omega), by have := h4.set 0 v; simpa using this, h6.grown hg (fun e => by injection e with e; omega)⟩, h5.far hg (by omega), h7.kept hg (fun e => by injection e with e; omega), h8.grown hg h8.size (fun k e => by injection e with e; omega), Nat.le_trans h9 hg.size, hA⟩
theorem CycV.facts (h : CycV w R steps rv1 rv2 rv3 v0 v xs n f X) :
    X.cell? ⟨w.heap.size + 1, 0, none⟩ = some (.int .i64 steps) ∧ (X.cell? ⟨w.heap.size + 1 + 1, 0, none⟩ = some rv1 ∧ X.frozen? ⟨w.heap.size + 1 + 1, 0, none⟩ = false) ∧ (X.cell? ⟨w.heap.size + 1 + 1 + 1, 0, none⟩ = some rv2 ∧ X.frozen? ⟨w.heap.size + 1 + 1 + 1, 0, none⟩ = false) ∧ (X.cell? ⟨w.heap.size + 1 + 1 + 1 + 1, 0, none⟩ = some rv3 ∧ X.frozen? ⟨w.heap.size + 1 + 1 + 1 + 1, 0, none⟩ = false) ∧
    (X.cell? ⟨R + 1, 0, none⟩ = some v0 ∧ X.frozen? ⟨R + 1, 0, none⟩ = false) ∧ X.cell? ⟨R + 1 + 1 + 1, 0, none⟩ = some (.map (some (R + 1 + 1))) ∧ R + 1 + 1 + 1 + 1 + 1 + 1 ≤ X.heap.size := by
  obtain ⟨⟨h1, h2, h3, h3', h4, h6⟩, h5, h7, h8, h9, hA⟩ := h
  exact ⟨h1.one.1, ⟨h2.one.1, h2.one.2.1⟩, ⟨h3.one.1, h3.one.2.1⟩, ⟨h3'.one.1, h3'.one.2.1⟩, ⟨h4.one.1, h4.one.2.1⟩, h6.one.1, h9⟩
end

/-- The results in their blocks. -/
def RetV (w : World) (C : Nat) (v : Value) (k e : Int) (row : List Int) (W : World) : Prop :=
  (Whole W (w.heap.size + 1 + 1) 22 #[v] ∧ Whole W (w.heap.size + 1 + 1 + 1) 3 #[.int .i64 k] ∧ Whole W (w.heap.size + 1 + 1 + 1 + 1) 26 #[.int .i64 e]) ∧ RowIs W C v row ∧ Below w.heap.size w W ∧ w.heap.size + 1 + 1 + 1 + 1 < C
section
variable {w : World} {C : Nat} {v : Value} {k e : Int} {row : List Int} {X Y : World}
theorem RetV.own {rw : Option Nat} {D : Nat} (h : RetV w C v k e row X) (hg : X.grownBy Y rw) (hB : C ≤ D) (hr : ∀ r, rw = some r → D ≤ r ∧ ∃ o : Obj, X.heap[r]? = some o ∧ o.isCells = false) : RetV w C v k e row Y := by
  obtain ⟨⟨h1, h2, h3⟩, h4, h5, h6⟩ := h
  have hr2 := fun r e => (hr r e).2
  have hw := fun (B : Nat) (t : TypeId) (cs : Array Value) (h : Whole X B t cs) => whole_own (β := Unit) B t (fun _ => cs) () X Y rw h hg hr2
  exact ⟨⟨hw _ _ _ h1, hw _ _ _ h2, hw _ _ _ h3⟩, h4.own hg hr2, ownFrom_below (β := Unit) (Nat.le_refl _) (by omega) () X Y rw h5 hg hr, h6⟩
theorem RetV.store {v' : Value} {k' e' : Int} {row' : List Int} (h : RetV w C v k e row X) (hrow : RowIs X C v' row') : RetV w C v' k' e' row' (((X.setCell ⟨w.heap.size + 1 + 1, 0, none⟩ v').setCell ⟨w.heap.size + 1 + 1 + 1, 0, none⟩ (.int .i64 k')).setCell ⟨w.heap.size + 1 + 1 + 1 + 1, 0, none⟩ (.int .i64 e')) := by
  obtain ⟨⟨h1, h2, h3⟩, h4, h5, h6⟩ := h
  have g1 := setCell_grown X (w.heap.size + 1 + 1) 0 v'
  have g2 := setCell_grown (X.setCell ⟨w.heap.size + 1 + 1, 0, none⟩ v') (w.heap.size + 1 + 1 + 1) 0 (.int .i64 k')
  have g3 := setCell_grown ((X.setCell ⟨w.heap.size + 1 + 1, 0, none⟩ v').setCell ⟨w.heap.size + 1 + 1 + 1, 0, none⟩ (.int .i64 k')) (w.heap.size + 1 + 1 + 1 + 1) 0 (.int .i64 e')
  have a1 : Whole (X.setCell ⟨w.heap.size + 1 + 1, 0, none⟩ v') (w.heap.size + 1 + 1) 22 #[v'] := by have := h1.set 0 v'; simpa using this
  have a2 : Whole ((X.setCell ⟨w.heap.size + 1 + 1, 0, none⟩ v').setCell ⟨w.heap.size + 1 + 1 + 1, 0, none⟩ (.int .i64 k')) (w.heap.size + 1 + 1 + 1) 3 #[.int .i64 k'] := by have := (h2.grown g1 (fun e => by injection e with e; omega)).set 0 (.int .i64 k'); simpa using this
  refine ⟨⟨(a1.grown g2 (fun e => by injection e with e; omega)).grown g3 (fun e => by injection e with e; omega), a2.grown g3 (fun e => by injection e with e; omega), ?_⟩, ((hrow.far g1 (by omega)).far g2 (by omega)).far g3 (by omega), Below.setAt (Below.setAt (Below.setAt h5 (by omega) 0 _) (by omega) 0 _) (by omega) 0 _, h6⟩
  have := ((h3.grown g1 (fun e => by injection e with e; omega)).grown g2 (fun e => by injection e with e; omega)).set 0 (.int .i64 e')
  simpa using this
end
theorem CycV.ret {w : World} {R : Nat} {steps : Int} {v0 v : Value} {xs : List Int} {n : Nat} {f : Int → Option Int} {X : World} (h : CycV w R steps (.slice none 0 0) (.int .i64 0) (.int .i64 0) v0 v xs n f X) : RetV w (R + 1 + 1 + 1 + 1 + 1 + 1) (.slice none 0 0) 0 0 [] X :=
  ⟨⟨h.1.2.1, h.1.2.2.1, h.1.2.2.2.1⟩, RowIs.nil _ _, h.2.2.2.1, by have := h.2.2.2.2.2; omega⟩
theorem results_ccc {fn : Func} {a b c : Tmp} (h : fn.results = #[.cell a 22, .cell b 3, .cell c 26]) (tmps : Array Value) (w : World) {p q r : Addr} {v u x : Value} (hp : tmps.getD a undef = .pointer (some p)) (hq : tmps.getD b undef = .pointer (some q)) (hr : tmps.getD c undef = .pointer (some r)) (hv : w.cell? p = some v) (hu : w.cell? q = some u) (hx : w.cell? r = some x) :
    (results fn tmps).run Try.prog w = .ok (.tuple #[v, u, x]) w := by
  have hp' : tmps[a]?.getD undef = .pointer (some p) := by simpa using hp
  have hq' : tmps[b]?.getD undef = .pointer (some q) := by simpa using hq
  have hr' : tmps[c]?.getD undef = .pointer (some r) := by simpa using hr
  have u1 := Try.underlying22
  have u2 := Try.underlying26
  have u3 := Try.underlying3
  simp [results, h, hp', hq', hr', go_sem, hv, hu, hx]
end Go.Proofs.Ytkjojcepombhpaa.L

/- (rule).cycle comes to what cycleW says. -/
namespace Go.Proofs.Ytkjojcepombhpaa.L
set_option linter.unusedVariables false
set_option linter.unusedSimpArgs false
open Go.RowKit Go.Shelf Go.Maps Go.Proofs.YtkjojcepombhpaaW.PrintWords Go.Proofs.YtkjojcepombhpaaW.PrintLast Go.Proofs.YtkjojcepombhpaaW.PrintMore
attribute [local go_sem] Oper.semAt_some

theorem RowIs.reads {W : World} {B : Nat} {v : Value} {xs : List Int} (h : RowIs W B v xs) : ∃ A c, v = .slice A xs.length c ∧ xs.length ≤ c ∧ Kd.C (Kd.int .i64) W A xs.length xs := Kd.R_reads (h.R (Nat.le_refl B))
theorem posOf_some {xs : List Int} {y k : Int} (h : posOf xs y = some k) : 0 ≤ k ∧ k < (xs.length : Int) ∧ ∃ j : Nat, k = (j : Int) ∧ j < xs.length ∧ xs[j]? = some y := by
  unfold posOf at h
  split at h
  · rename_i hm
    cases h
    have := List.idxOf_lt_length_of_mem hm
    exact ⟨by omega, by omega, _, rfl, this, by rw [List.getElem?_eq_getElem this, List.getElem_idxOf]⟩
  · cases h
theorem posOf_none {xs : List Int} {y : Int} (h : posOf xs y = none) : y ∉ xs := by
  unfold posOf at h
  split at h
  · cases h
  · assumption
/-- The map behind one number more. -/
theorem NumsIs.more {W : World} {b n : Nat} {xs : List Int} {y : Int} (hy : y ∉ xs) (h : NumsIs W b n (fun v => if v = y then some (xs.length : Int) else posOf xs v)) : NumsIs W b n (posOf (xs ++ [y])) := by
  have e : (fun v => if v = y then some (xs.length : Int) else posOf xs v) = posOf (xs ++ [y]) := by
    funext v
    rw [posOf_snoc hy]
  rw [← e]
  exact h

theorem RowIs.mono {W : World} {B B' : Nat} {v : Value} {xs : List Int} (h : RowIs W B v xs) (hb : B' ≤ B) : RowIs W B' v xs := own_weaken h hb
theorem RetV.mono {w : World} {C C' : Nat} {v : Value} {k e : Int} {row : List Int} {X : World} (h : RetV w C v k e row X) (hC : C' ≤ C ∧ w.heap.size + 1 + 1 + 1 + 1 < C') : RetV w C' v k e row X := ⟨h.1, h.2.1.mono hC.1, h.2.2.1, hC.2⟩
theorem keeps_below {W W' : World} (h : Below W.heap.size W W') : KeepsOthers W W' := ⟨h.size, fun k o ho _ => (h.block k (Array.getElem?_eq_some_iff.1 ho).1).trans ho⟩
/-- Blocks laid one behind the other. -/
def laid (w : World) (os : List Obj) : World := os.foldl World.alloc w
theorem laid_size (os : List Obj) : ∀ w : World, (laid w os).heap.size = w.heap.size + os.length := by
  induction os with
  | nil => intro w; rfl
  | cons o os ih => intro w; show (laid (w.alloc o) os).heap.size = _; rw [ih, World.size_alloc, List.length_cons]; omega
theorem laid_below (os : List Obj) : ∀ w : World, Below w.heap.size w (laid w os) := by
  induction os with
  | nil => intro w; exact Below.refl _ _
  | cons o os ih => intro w; exact below_then (below_alloc (Below.refl _ w) o) (by rw [World.size_alloc]; omega) (ih (w.alloc o))
theorem laid_at (os : List Obj) : ∀ (w : World) (i : Nat) (o : Obj), os[i]? = some o → (laid w os).heap[w.heap.size + i]? = some o := by
  induction os with
  | nil => intro w i o h; cases h
  | cons q os ih =>
    intro w i o h
    cases i with
    | zero =>
      cases h
      exact ((laid_below os (w.alloc q)).block w.heap.size (by rw [World.size_alloc]; omega)).trans (World.alloc_heap_new w q)
    | succ i =>
      have := ih (w.alloc q) i o h
      rw [World.size_alloc] at this
      rw [show w.heap.size + (i + 1) = w.heap.size + 1 + i by omega]
      exact this
theorem NumsIs.of_new {W : World} {b : Nat} (h : W.heap[b]? = some (.map #[] 0)) : NumsIs W b 0 (posOf []) :=
  ⟨.map [], ⟨#[], 0, h, ⟨by simp, MapKept.stamped_empty 0, by simp⟩, Nat.le_refl _, rfl⟩, fun v z => by simp [DataW.atKey, posOf]⟩

set_option maxRecDepth 100000 in
set_option maxHeartbeats 8000000 in
theorem cycle_any (m : Int) (A1 : Option Addr) (c1 : Nat) (t : List Int) (A2 : Option Addr) (c2 : Nat) (p : List Int) (n steps : Int) (w : World) (h1 : Kd.C (Kd.int .i64) w A1 t.length t) (h2 : Kd.C (Kd.int .i64) w A2 p.length p) (hR : RuleIs m t p) (hsteps : 0 ≤ steps ∧ steps ≤ 500) (res : List Int × Int × Int) (hres : cycleW m t p n steps = res) :
    Calls Try.prog 68 #[rv m (.slice A1 t.length c1) (.slice A2 p.length c2), .int .i64 n, .int .i64 steps] w fun e w' => ∃ v : Value, e = .returned (.tuple #[v, .int .i64 res.2.1, .int .i64 res.2.2]) ∧ RowIs w' w.heap.size v res.1 ∧ Below w.heap.size w w' := by
  have HRES := Lib.hid hres
  clear hres
  have hmm := @run_makeMap Try.prog
  have HA := Lib.hid h1
  have HB := Lib.hid h2
  have HRU := Lib.hid hR
  clear h1 h2 hR
  refine (callsIn_wide (n := 6)).1 ?_
  refine callsIn_of_wp_marks Try.func68 rfl trivial ?_ rfl
  simp only [Try.ntmps68, List.size_toArray, List.length_cons, List.length_nil, Nat.reduceAdd, Nat.reduceSub, Array.replicate_succ, Array.replicate_zero, List.push_toArray, List.append_toArray, List.nil_append, List.cons_append]
  gi_wp2_with (refine ⟨trivial, ?_⟩; gi_at_call 61; refine (callsIn_wide.2 (orbit_any m (.slice A1 t.length c1) (.slice A2 p.length c2) n _ rfl rfl)).mono ?_; rintro e w2 ⟨rfl, rfl⟩)
  obtain ⟨W0, hW0⟩ : ∃ W0, W0 = laid w [rbox m (.slice A1 t.length c1) (.slice A2 p.length c2), .cells #[.int .i64 steps] 3, .cells #[.slice none 0 0] 22, .cells #[.int .i64 0] 3, .cells #[.int .i64 0] 26, .cells #[.slice none 0 0] 22, .map #[] 0, .cells #[.map (some (w.heap.size + 1 + 1 + 1 + 1 + 1 + 1))] 102, rbox m (.slice A1 t.length c1) (.slice A2 p.length c2), .cells #[.int .i64 n] 3] := ⟨_, rfl⟩
  have hat := laid_at [rbox m (.slice A1 t.length c1) (.slice A2 p.length c2), .cells #[.int .i64 steps] 3, .cells #[.slice none 0 0] 22, .cells #[.int .i64 0] 3, .cells #[.int .i64 0] 26, .cells #[.slice none 0 0] 22, .map #[] 0, .cells #[.map (some (w.heap.size + 1 + 1 + 1 + 1 + 1 + 1))] 102, rbox m (.slice A1 t.length c1) (.slice A2 p.length c2), .cells #[.int .i64 n] 3] w
  have g9 := laid_below [rbox m (.slice A1 t.length c1) (.slice A2 p.length c2), .cells #[.int .i64 steps] 3, .cells #[.slice none 0 0] 22, .cells #[.int .i64 0] 3, .cells #[.int .i64 0] 26, .cells #[.slice none 0 0] 22, .map #[] 0, .cells #[.map (some (w.heap.size + 1 + 1 + 1 + 1 + 1 + 1))] 102, rbox m (.slice A1 t.length c1) (.slice A2 p.length c2), .cells #[.int .i64 n] 3] w
  have hsz := laid_size [rbox m (.slice A1 t.length c1) (.slice A2 p.length c2), .cells #[.int .i64 steps] 3, .cells #[.slice none 0 0] 22, .cells #[.int .i64 0] 3, .cells #[.int .i64 0] 26, .cells #[.slice none 0 0] 22, .map #[] 0, .cells #[.map (some (w.heap.size + 1 + 1 + 1 + 1 + 1 + 1))] 102, rbox m (.slice A1 t.length c1) (.slice A2 p.length c2), .cells #[.int .i64 n] 3] w
  rw [← hW0] at hat g9 hsz
  have q1 : Whole W0 (w.heap.size + 1) 3 #[.int .i64 steps] := hat 1 _ rfl
  have q2 : Whole W0 (w.heap.size + 1 + 1) 22 #[.slice none 0 0] := hat 2 _ rfl
  have q3 : Whole W0 (w.heap.size + 1 + 1 + 1) 3 #[.int .i64 0] := hat 3 _ rfl
  have q4 : Whole W0 (w.heap.size + 1 + 1 + 1 + 1) 26 #[.int .i64 0] := hat 4 _ rfl
  have q5 : Whole W0 (w.heap.size + 1 + 1 + 1 + 1 + 1) 22 #[.slice none 0 0] := hat 5 _ rfl
  have q6 : NumsIs W0 (w.heap.size + 1 + 1 + 1 + 1 + 1 + 1) 0 (posOf []) := NumsIs.of_new (hat 6 _ rfl)
  have q7 : Whole W0 (w.heap.size + 1 + 1 + 1 + 1 + 1 + 1 + 1) 102 #[.map (some (w.heap.size + 1 + 1 + 1 + 1 + 1 + 1))] := hat 7 _ rfl
  have q8 : Whole W0 (w.heap.size + 1 + 1 + 1 + 1 + 1 + 1 + 1 + 1) 75 #[.int .i64 m, .slice A1 t.length c1, .slice A2 p.length c2] := hat 8 _ rfl
  have q9 : Whole W0 (w.heap.size + 1 + 1 + 1 + 1 + 1 + 1 + 1 + 1 + 1) 3 #[.int .i64 n] := hat 9 _ rfl
  clear hat
  have hW1 := hW0
  simp only [laid, List.foldl] at hW1
  rw [← hW1]
  clear hW0 hW1
  simp only [List.length_cons, List.length_nil] at hsz
  replace hsz := Nat.le_of_eq hsz.symm
  have HG9 := Lib.hid g9
  have hseq := orbit1_gives 5 w.heap.size (w.heap.size + 1 + 1 + 1 + 1 + 1 + 1 + 1 + 1 + 1) (w.heap.size + 1 + 1 + 1 + 1 + 1 + 1 + 1 + 1) (steps.toNat + 2) m A1 A2 c1 c2 t p n W0 HRU.out q9 q8 g9.size (by omega) (by omega) (fun W' hb => Kd.C_below HA.out (HG9.out.trans hb)) (fun W' hb => Kd.C_below HB.out (HG9.out.trans hb))
  have hO : CycV w (w.heap.size + 1 + 1 + 1 + 1) steps (.slice none 0 0) (.int .i64 0) (.int .i64 0) (.slice none 0 0) (.slice none 0 0) [] 0 (posOf []) W0 := ⟨⟨q1, q2, q3, q4, q5, q7⟩, RowIs.nil _ _, q6, g9, by omega, rfl⟩
  clear q1 q2 q3 q4 q5 q6 q7 q8 q9
  refine wpIn_rangeB rfl (by omega) (gf := 83) (lb := #[.pointer (some ⟨w.heap.size + 1 + 1 + 1 + 1 + 1 + 1 + 1 + 1 + 1, 0, none⟩), .pointer (some ⟨w.heap.size + 1 + 1 + 1 + 1 + 1 + 1 + 1 + 1, 0, none⟩)]) rfl trivial (enters_of Try.func83 (by kernel_rfl) rfl) hseq (fun h k => KpG_t h k) (KpG_b (by have := g9.size; omega)) (Below.refl _ _) (fun _ => rfl) (fun _ => fun _ _ _ _ h _ _ => h)
    (fun pre W => (pre.Nodup ∧ (∀ z ∈ pre, smallB z = true) ∧ (pre.length : Int) ≤ steps + 1) ∧ ∃ v, CycV w (w.heap.size + 1 + 1 + 1 + 1) steps (.slice none 0 0) (.int .i64 0) (.int .i64 0) v v pre pre.length (posOf pre) W)
    (fun co pre W => ∃ q y, pre = q ++ [y] ∧ (q.Nodup ∧ (∀ z ∈ q, smallB z = true) ∧ (q.length : Int) ≤ steps + 1) ∧ ((co = .exit 0 ∧ steps < (q.length : Int) ∧ RetV w (w.heap.size + 1 + 1 + 1 + 1 + 1 + 1 + 1 + 1 + 1 + 1) (.slice none 0 0) 0 0 [] W) ∨ (co = .ret ∧ ¬ steps < (q.length : Int) ∧ smallB y = false ∧ RetV w (w.heap.size + 1 + 1 + 1 + 1 + 1 + 1 + 1 + 1 + 1 + 1) (.slice none 0 0) 0 5 [] W) ∨ (co = .ret ∧ ¬ steps < (q.length : Int) ∧ smallB y = true ∧ ∃ k, posOf q y = some k ∧ ∃ v, RetV w (w.heap.size + 1 + 1 + 1 + 1 + 1 + 1 + 1 + 1 + 1 + 1) v k 0 (writtenL (q.drop k.toNat)) W)))
    (fun pre X Y row h hg hr => ⟨h.1, h.2.imp fun v h => h.own hg (C := W0.heap.size) (by omega) hr⟩)
    ?hIx
    (fun pre W h => by have := h.1.2.2; omega)
    (fun r h => by omega)
    (fun pre X Y r hr h hg => ⟨h.1, h.2.imp fun v h => h.turn hg hr⟩)
    ⟨⟨List.nodup_nil, by simp, by simp; omega⟩, _, hO⟩
    ?a1 ?assign ?body ?done ?stop
  case hIx =>
    rintro co pre X Y row ⟨q, y, h1, h2, h3⟩ hg hr
    refine ⟨q, y, h1, h2, ?_⟩
    rcases h3 with ⟨a, b, h⟩ | ⟨a, b, b', h⟩ | ⟨a, b, b', k, hk, v, h⟩
    · exact .inl ⟨a, b, h.own hg (D := W0.heap.size) (by omega) hr⟩
    · exact .inr (.inl ⟨a, b, b', h.own hg (D := W0.heap.size) (by omega) hr⟩)
    · exact .inr (.inr ⟨a, b, b', k, hk, v, h.own hg (D := W0.heap.size) (by omega) hr⟩)
  case assign =>
    intro l x W K hK
    gi_wp2
    exact hK
  case body =>
    rintro l pre y W hle ⟨⟨hnd, hsm, hlen⟩, v, hV⟩ _
    obtain ⟨x1, ⟨x2, y2⟩, ⟨x3, y3⟩, ⟨x3', y3'⟩, ⟨x4, y4⟩, x6, z6⟩ := hV.facts
    obtain ⟨A, c, rfl, hac, hC⟩ := hV.2.1.reads
    have HC := Lib.hid hC
    have HV := Lib.hid hV
    have HQ := Lib.hid (show pre.Nodup ∧ (∀ z ∈ pre, smallB z = true) ∧ (pre.length : Int) ≤ steps + 1 from ⟨hnd, hsm, hlen⟩)
    clear hV hnd hsm hC
    cases hqs : decide (steps < (pre.length : Int))
    · have HQS := Lib.hid (of_decide_eq_false hqs)
      cases hs : smallB y
      · have HS := Lib.hid hs
        gi_wp2_with (refine ⟨trivial, ?_⟩; gi_at_call 59; refine (CallsIn.inRound l (callsIn_wide.2 (small_any _ _))).mono ?_; rintro e w4 ⟨rfl, rfl⟩)
        exact ⟨((KeepsOthers.setCell _ _ _).trans ((KeepsOthers.setCell _ _ _).trans (KeepsOthers.setCell _ _ _))).from _, pre, y, rfl, HQ.out, .inr (.inl ⟨rfl, HQS.out, HS.out, ((HV.out.ret).store (RowIs.nil _ _))⟩)⟩
      · have HSM := Lib.hid hs
        have hlen' : pre.length < 600 := by omega
        have HWF := Lib.hid (wf_small hs)
        have hlk := HV.out.2.2.1.look under102 y HWF.out
        have HLK := Lib.hid hlk
        clear hlk
        cases hf : posOf pre y with
        | none =>
          rw [hf] at HLK
          have HF := Lib.hid hf
          clear hf
          gi_wp2_with (first
            | (refine ⟨trivial, ?_⟩; gi_at_call 59; refine (CallsIn.inRound l (callsIn_wide.2 (small_any _ _))).mono ?_; rintro e w4 ⟨rfl, rfl⟩)
            | (gi_at_lookup; refine wpListIn_lookup_run rfl _ _ 102 rfl rfl rfl HLK.out ?_)
            | (gi_at_mapUpdate; obtain ⟨w3, r1, r2, r3⟩ := HV.out.2.2.1.put under102 y (pre.length : Int) HWF.out (wf_small (by simp [smallB, inB]; omega)) (by omega); refine wpListIn_mapUpdate_run rfl _ _ _ 102 rfl rfl rfl rfl r1 ?_; have hV3 := HV.out.mapped r3 (r2.more (posOf_none HF.out)); have hC3 := (Chg.refl (w.heap.size + 1 + 1 + 1 + 1) W).grow r3 (fun r e => by injection e with e; exact .inr (.inl e.symm)); have HV3 := Lib.hid hV3; have HC3 := Lib.hid hC3; obtain ⟨x1, _, _, _, ⟨x4, y4⟩, x6, z6⟩ := hV3.facts; clear hV3 hC3 r1 r2 r3)
            | (gi_at_builtin; refine appendI _ rfl (.tmp 42) (.tmp 44) rfl (w.heap.size + 1 + 1 + 1 + 1 + 1 + 1 + 1 + 1 + 1 + 1) _ pre rfl (HV3.out.2.1.alloc _) w3.heap.size y rfl (by simp) (by omega) (by simp; omega) ?_; intro v' w2 hrow hgrow hat; have hV4 := HV3.out.append hgrow hrow; have hC4 := (HC3.out.grow (World.grownBy_alloc w3 (.cells #[.int .i64 y] 3) none) (fun r e => by cases e)).grow hgrow (HV3.out.2.1.alloc _).chg; obtain ⟨x1, _, _, _, ⟨x4, y4⟩, x6, z6⟩ := hV4.facts; have HV4 := Lib.hid hV4; have HC4 := Lib.hid hC4; obtain ⟨g', cap', rfl⟩ := hrow.form (by simp); clear hV4 hC4 hrow hgrow hat))
          have hV5 := HV4.out.store
          have hC5 := HC4.out.grow (setCell_grown w2 (w.heap.size + 1 + 1 + 1 + 1 + 1) 0 (.slice (some ⟨g', 0, none⟩) (pre ++ [y]).length cap')) (fun r e => by injection e with e; exact .inl e.symm)
          have el : (pre ++ [y]).length = pre.length + 1 := by simp
          rw [el] at hV5 hC5
          exact ⟨hC5.keeps (B := W0.heap.size) (by omega), hC5.kp (by omega) rfl rfl HV.out.2.2.2.2.1, ⟨by rw [List.nodup_append]; exact ⟨HQ.out.1, by simp, fun a ha b hb => by rw [List.mem_singleton] at hb; subst hb; intro e; subst e; exact posOf_none HF.out ha⟩, fun z hz => by rcases List.mem_append.1 hz with h | h; exact HQ.out.2.1 z h; rw [List.mem_singleton] at h; subst h; exact HSM.out, by have := HQS.out; simp; omega⟩, _, by rw [el]; exact hV5⟩
        | some k =>
          obtain ⟨k0, k1, j, rfl, k2, k3⟩ := posOf_some hf
          rw [hf] at HLK
          have HF := Lib.hid hf
          clear hf k3
          obtain ⟨ad, rfl, _⟩ := Kd.at_int HC.out 0 (by omega) (by omega)
          have hd := Kd.C_drop (c := c) HC.out (m := j) (by omega) hac
          rw [if_neg (by omega)] at hd
          have hk1 : j * (Kd.int .i64).sz = j := Nat.mul_one j
          have hdl : (pre.drop j).length = pre.length - j := List.length_drop
          simp only [Option.map_some] at hd
          rw [hk1] at hd
          have HW := Lib.hid (written_any _ (c - j) (pre.drop j) W (by omega) (by omega) (by omega) hd)
          rw [hdl] at HW
          have hdl2 := Lib.hid hdl
          clear hd hdl hk1
          have b2 : (j : Int) ≤ (pre.length : Int) := by omega
          have b3 : (j : Int) ≤ (c : Int) := by omega
          have b4 : ¬ c = j := by omega
          gi_wp2_with (first
            | (refine ⟨trivial, ?_⟩; gi_at_call 59; refine (CallsIn.inRound l (callsIn_wide.2 (small_any _ _))).mono ?_; rintro e w4 ⟨rfl, rfl⟩)
            | (refine ⟨trivial, ?_⟩; gi_at_call 86; refine (CallsIn.inRound l (callsIn_wide.2 HW.out)).mono ?_; rintro e w3 ⟨v', rfl, hr, hb⟩; obtain ⟨A', c', rfl, _, _⟩ := hr.reads; have hV3 := HV.out.own (grown_of_below hb none) (C := W.heap.size) (by omega) (fun r e => by cases e); obtain ⟨x1, ⟨x2, y2⟩, ⟨x3, y3⟩, ⟨x3', y3'⟩, ⟨x4, y4⟩, x6, z6⟩ := hV3.facts; have HV3 := Lib.hid hV3; have HRW := Lib.hid hr; have HBW := Lib.hid hb; clear hV3 hr hb)
            | (gi_at_lookup; refine wpListIn_lookup_run rfl _ _ 102 rfl rfl rfl HLK.out ?_))
          have hr2 := HV3.out.ret
          have hst := RetV.store (v' := _) (k' := (j : Int)) (e' := 0) (row' := writtenL (pre.drop j)) (C := w.heap.size + 1 + 1 + 1 + 1 + 1 + 1 + 1 + 1 + 1 + 1) hr2 (HRW.out.mono (by omega))
          exact ⟨((keeps_below HBW.out).trans ((KeepsOthers.setCell _ _ _).trans ((KeepsOthers.setCell _ _ _).trans (KeepsOthers.setCell _ _ _)))).from _, pre, y, rfl, HQ.out, .inr (.inr ⟨rfl, HQS.out, HSM.out, (j : Int), HF.out, _, by rw [Int.toNat_natCast]; exact hst⟩)⟩
    · have HQS := Lib.hid (of_decide_eq_true hqs)
      gi_wp2
      exact ⟨KeepsFrom.refl _ _, pre, y, rfl, HQ.out, .inl ⟨rfl, HQS.out, HV.out.ret⟩⟩
  case done =>
    rintro D xs W hD ⟨k, rfl, _, hl⟩ ⟨⟨_, hsm, _⟩, _⟩ _ _
    have := hsm (iterW m t p k n) (by rw [orbTo_succ]; simp)
    rw [hl] at this
    cases this
  case stop =>
    rintro D co pre W hD ⟨k, hpre, hsk⟩ ⟨q, y, hqy, ⟨hnd, hsm, hlen⟩, hco⟩ hK hD2
    have e1 := hpre.symm.trans hqy
    rw [orbTo_succ] at e1
    obtain ⟨rfl, e2⟩ := List.append_inj' e1 rfl
    simp only [List.cons.injEq, and_true] at e2
    subst e2
    rw [orbTo_length] at hlen hco
    have hgo := cycGo_to m t p n steps k hnd hsk hlen 503 (by omega)
    rw [show 503 - k = (502 - k) + 1 by omega] at hgo
    have hgo := hgo.trans (show _ = (if steps < ((orbTo m t p n k).length : Int) then ([], 0, 6) else if smallB (iterW m t p k n) then (match posOf (orbTo m t p n k) (iterW m t p k n) with | some j => (writtenL ((orbTo m t p n k).drop j.toNat), j, 0) | none => cycGo m t p steps (502 - k) (orbTo m t p n k ++ [iterW m t p k n]) (sentW m t p (iterW m t p k n))) else ([], 0, 5)) from rfl)
    rw [orbTo_length] at hgo
    have fin : ∀ (v : Value) (k' e' : Int) (row : List Int) (X : World), RetV w (w.heap.size + 1 + 1 + 1 + 1 + 1 + 1 + 1 + 1 + 1 + 1) v k' e' row X → (row, k', e') = res → ∃ v : Value, RetV w (w.heap.size + 1 + 1 + 1 + 1 + 1 + 1 + 1 + 1 + 1 + 1) v res.2.1 res.2.2 res.1 X := by
      intro v k' e' row X h e; subst e; exact ⟨v, h⟩
    have put : ∀ (v : Value) (k' e' : Int) (row : List Int) (X : World), RetV w (w.heap.size + 1 + 1 + 1 + 1 + 1 + 1 + 1 + 1 + 1 + 1) v k' e' row X → X.heap[D]? = some (.deferred (some [])) → RetV w (w.heap.size + 1 + 1 + 1 + 1 + 1 + 1 + 1 + 1 + 1 + 1) v k' e' row (X.putObj D (.deferred none)) := fun v k' e' row X h hx => h.own (grownBy_putObj' _ D (.deferred none)) (D := W0.heap.size) (by omega) (fun r e => by injection e with e; subst e; exact ⟨hD, _, hx, rfl⟩)
    have HRE := Lib.hid (show cycleW m t p n steps = _ from hgo)
    have HFIN := Lib.hid fin
    have HPUT := Lib.hid put
    clear hgo fin put hpre hqy hsm hnd hsk e1
    rcases hco with ⟨rfl, hl, hV⟩ | ⟨rfl, hl, hs, hV⟩ | ⟨rfl, hl, hs, j, hj, v, hV⟩
    · have he := HRE.out
      rw [if_pos hl] at he
      have hV2 := HFIN.out _ _ _ _ _ (HPUT.out _ _ _ _ _ (hV.store (v' := .slice none 0 0) (k' := 0) (e' := 6) (RowIs.nil _ _)) ((Below.heap_setCell _ _ _ _ (by show _ ≠ w.heap.size + 1 + 1 + 1 + 1; omega)).trans ((Below.heap_setCell _ _ _ _ (by show _ ≠ w.heap.size + 1 + 1 + 1; omega)).trans ((Below.heap_setCell _ _ _ _ (by show _ ≠ w.heap.size + 1 + 1; omega)).trans hK)))) (he.symm.trans HRES.out)
      obtain ⟨v', hV2⟩ := hV2
      have HV := Lib.hid hV2
      have HK := Lib.hid ((Below.heap_setCell ((W.setCell ⟨w.heap.size + 1 + 1, 0, none⟩ (.slice none 0 0)).setCell ⟨w.heap.size + 1 + 1 + 1, 0, none⟩ (.int .i64 0)) ⟨w.heap.size + 1 + 1 + 1 + 1, 0, none⟩ (.int .i64 6) D (by show _ ≠ w.heap.size + 1 + 1 + 1 + 1; omega)).trans ((Below.heap_setCell (W.setCell ⟨w.heap.size + 1 + 1, 0, none⟩ (.slice none 0 0)) ⟨w.heap.size + 1 + 1 + 1, 0, none⟩ (.int .i64 0) D (by show _ ≠ w.heap.size + 1 + 1 + 1; omega)).trans ((Below.heap_setCell W ⟨w.heap.size + 1 + 1, 0, none⟩ (.slice none 0 0) D (by show _ ≠ w.heap.size + 1 + 1; omega)).trans hK)))
      obtain ⟨x2, y2, z2⟩ := hV.1.1.one
      obtain ⟨x3, y3, z3⟩ := hV.1.2.1.one
      obtain ⟨x4, y4, z4⟩ := hV.1.2.2.one
      clear hV hV2 he hK
      gi_wp2
      refine ⟨by simp, .inl ⟨_, _, rfl, run_takeDeferred HK.out, ?_⟩⟩
      have hV := HV.out
      exact ⟨_, results_ccc rfl _ _ rfl rfl rfl hV.1.1.one.1 hV.1.2.1.one.1 hV.1.2.2.one.1, v', rfl, hV.2.1.mono (by omega), hV.2.2.1⟩
    · have he := HRE.out
      rw [if_neg hl, if_neg (by rw [hs]; decide)] at he
      obtain ⟨v', hV2⟩ := HFIN.out _ _ _ _ _ (HPUT.out _ _ _ _ _ hV hK) (he.symm.trans HRES.out)
      have HV := Lib.hid hV2
      have HK := Lib.hid hK
      clear hV hV2 he hK
      gi_wp2
      refine ⟨by simp, .inl ⟨_, _, rfl, run_takeDeferred HK.out, ?_⟩⟩
      have hV := HV.out
      exact ⟨_, results_ccc rfl _ _ rfl rfl rfl hV.1.1.one.1 hV.1.2.1.one.1 hV.1.2.2.one.1, v', rfl, hV.2.1.mono (by omega), hV.2.2.1⟩
    · have he := HRE.out
      rw [if_neg hl, if_pos hs, hj] at he
      obtain ⟨v', hV2⟩ := HFIN.out _ _ _ _ _ (HPUT.out _ _ _ _ _ hV hK) (he.symm.trans HRES.out)
      have HV := Lib.hid hV2
      have HK := Lib.hid hK
      clear hV hV2 he hK
      gi_wp2
      refine ⟨by simp, .inl ⟨_, _, rfl, run_takeDeferred HK.out, ?_⟩⟩
      have hV := HV.out
      exact ⟨_, results_ccc rfl _ _ rfl rfl rfl hV.1.1.one.1 hV.1.2.1.one.1 hV.1.2.2.one.1, v', rfl, hV.2.1.mono (by omega), hV.2.2.1⟩
end Go.Proofs.Ytkjojcepombhpaa.L

/- Cycle comes to what wheel_Cycle.f says. -/
namespace Go.Proofs.Ytkjojcepombhpaa.L
set_option linter.unusedVariables false
set_option linter.unusedSimpArgs false
open Go.RowKit Go.Shelf Go.Proofs.YtkjojcepombhpaaW.PrintWords Go.Proofs.YtkjojcepombhpaaW.PrintLast Go.Proofs.YtkjojcepombhpaaW.PrintMore

def wheel_Cycle.f (m : Int) (t p : List Int) (n steps : Int) : Option (List Int × Int × Int) :=
  some (if ruleB m t p && (smallB n && inB steps 0 500) then cycleW m t p n steps else ([], 0, 2))

set_option maxHeartbeats 4000000 in
theorem wheel_Cycle.calls (m : Int) (A1 : Option Addr) (c1 : Nat) (t : List Int) (A2 : Option Addr) (c2 : Nat) (p : List Int) (n steps : Int) (r1 : List Int) (r2 r3 : Int) (w : World) (h1 : Kd.C (Kd.int .i64) w A1 t.length t) (hc1 : t.length ≤ c1) (h2 : Kd.C (Kd.int .i64) w A2 p.length p) (hc2 : p.length ≤ c2) (h : wheel_Cycle.f m t p n steps = some (r1, r2, r3)) :
    Calls Try.prog 32 #[.agg #[.int .i64 m, .slice A1 t.length c1, .slice A2 p.length c2], .int .i64 n, .int .i64 steps] w fun e w' => ∃ v0_ : Value, e = .returned (.tuple #[v0_, .int .i64 r2, .int .i64 r3]) ∧ Kd.R (Kd.int .i64) 3 w' w.heap.size (fun _ => True) v0_ r1 ∧ Below w.heap.size w w' := by
  have HA := Lib.hid h1
  have HB := Lib.hid h2
  clear h1 h2 hc1 hc2
  simp only [wheel_Cycle.f, Option.some.injEq] at h
  obtain ⟨q, hq⟩ : ∃ q, ruleB m t p = q := ⟨_, rfl⟩
  have HQ := Lib.hid hq
  have B0 := below_alloc (Below.refl w.heap.size w) (rbox24 m (.slice A1 t.length c1) (.slice A2 p.length c2))
  have HN := Lib.hid (newRule_any m A1 A2 c1 c2 t p _ (Kd.C_below HA.out B0) (Kd.C_below HB.out B0))
  rw [hq] at h HN
  clear hq
  cases q
  · simp only [Bool.false_and, Bool.false_eq_true, if_false, Prod.mk.injEq] at h
    obtain ⟨rfl, rfl, rfl⟩ := h
    go_enter Try.func32, Try.ntmps32
    go_wp2_with (go_at_call 58; refine HN.out.mono ?_; rintro e w1 ⟨rfl, hb⟩; have HB1 := Lib.hid hb; clear hb)
    go_ret3
    exact ⟨_, rfl, Kd.R_nil _ _ _ _ _, below_alloc (below_then B0 B0.size HB1.out) _⟩
  · cases hs : smallB n
    · rw [hs] at h
      simp only [Bool.and_false, Bool.false_and, Bool.false_eq_true, if_false, Prod.mk.injEq] at h
      obtain ⟨rfl, rfl, rfl⟩ := h
      go_enter Try.func32, Try.ntmps32
      go_wp2_with (first
        | (go_at_call 58; refine HN.out.mono ?_; rintro e w1 ⟨rfl, hb⟩; have HB1 := Lib.hid hb; clear hb)
        | (go_at_call 59; refine (small_any _ _).mono ?_; rintro e w2 ⟨rfl, rfl⟩))
      go_ret3
      exact ⟨_, rfl, Kd.R_nil _ _ _ _ _, below_alloc (below_then B0 B0.size HB1.out) _⟩
    · cases hi : inB steps 0 500
      · rw [hi] at h
        simp only [Bool.and_false, Bool.false_eq_true, if_false, Prod.mk.injEq] at h
        obtain ⟨rfl, rfl, rfl⟩ := h
        go_enter Try.func32, Try.ntmps32
        go_wp2_with (first
          | (go_at_call 58; refine HN.out.mono ?_; rintro e w1 ⟨rfl, hb⟩; have HB1 := Lib.hid hb; clear hb)
          | (go_at_call 59; refine (small_any _ _).mono ?_; rintro e w2 ⟨rfl, rfl⟩)
          | (go_at_call 60; refine (within_any _ _ _ _).mono ?_; rintro e w2 ⟨rfl, rfl⟩))
        go_ret3
        exact ⟨_, rfl, Kd.R_nil _ _ _ _ _, below_alloc (below_then B0 B0.size HB1.out) _⟩
      · have hR := ruleB_is HQ.out
        have hst : 0 ≤ steps ∧ steps ≤ 500 := by simpa [inB] using hi
        rw [hi, hs] at h
        simp only [Bool.and_self, if_true] at h
        have HY := Lib.hid (fun W hA hB => cycle_any m A1 c1 t A2 c2 p n steps W hA hB hR hst _ h)
        clear hR h
        go_enter Try.func32, Try.ntmps32
        go_wp2_with (first
          | (go_at_call 58; refine HN.out.mono ?_; rintro e w1 ⟨rfl, hb⟩; have HB1 := Lib.hid (below_alloc (below_then B0 B0.size hb) (rbox m (.slice A1 t.length c1) (.slice A2 p.length c2))); clear hb)
          | (go_at_call 59; refine (small_any _ _).mono ?_; rintro e w2 ⟨rfl, rfl⟩)
          | (go_at_call 60; refine (within_any _ _ _ _).mono ?_; rintro e w2 ⟨rfl, rfl⟩)
          | (go_at_call 68; refine (HY.out _ (Kd.C_below HA.out HB1.out) (Kd.C_below HB.out HB1.out)).mono ?_; rintro e w2 ⟨v, rfl, hr, hb⟩; obtain ⟨A', c', rfl, _, _⟩ := hr.reads; have HB2 := Lib.hid hb; have HR2 := Lib.hid hr; clear hb hr))
        go_ret3
        have q1 := HB1.out
        have q2 := HB2.out
        exact ⟨_, rfl, HR2.out.R q1.size, below_then q1 q1.size q2⟩
end Go.Proofs.Ytkjojcepombhpaa.L
