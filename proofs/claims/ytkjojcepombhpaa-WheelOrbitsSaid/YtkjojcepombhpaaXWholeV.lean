/- Whole: the words of its loop. -/
import Derived.Test.YtkjojcepombhpaaM4
import Derived.Test.YtkjojcepombhpaaXCycle
import Derived.Test.YtkjojcepombhpaaXForm
import Derived.Test.YtkjojcepombhpaaXFollows
namespace Go.Proofs.Ytkjojcepombhpaa.L
set_option linter.unusedVariables false
set_option linter.unusedSimpArgs false
open Go.RowKit Go.Shelf Go.Proofs.YtkjojcepombhpaaW.PrintWords Go.Proofs.YtkjojcepombhpaaW.PrintLast Go.Proofs.YtkjojcepombhpaaW.PrintMore
attribute [local go_sem] Oper.semAt_some

def wholeX (m : Int) (t p l : List Int) : Int := fixNum (formW m t p l).1 (formW m t p l).2.1 (formW m t p l).2.2
def wholeB (m : Int) (t p : List Int) (K : Int) (l : List Int) : Bool :=
  decide (fixDen (formW m t p l).1 (formW m t p l).2.1 (formW m t p l).2.2 = 1) && (followsW m t p l (wholeX m t p l) && (decide ((cycleW m t p (wholeX m t p l) K).2.2 = 0) && (decide (((cycleW m t p (wholeX m t p l) K).1.length : Int) = K) && decide (rd (cycleW m t p (wholeX m t p l) K).1 0 = wholeX m t p l))))
def wholeO (m : Int) (t p : List Int) (K : Int) (ls : List (List Int)) : List Int := (ls.filter (wholeB m t p K)).map (wholeX m t p)
theorem wholeO_snoc (m : Int) (t p : List Int) (K : Int) (ls : List (List Int)) (l : List Int) : wholeO m t p K (ls ++ [l]) = if wholeB m t p K l then wholeO m t p K ls ++ [wholeX m t p l] else wholeO m t p K ls := by
  unfold wholeO
  rw [List.filter_append]
  split <;> simp_all
theorem wholeO_length (m : Int) (t p : List Int) (K : Int) (ls : List (List Int)) : (wholeO m t p K ls).length ≤ ls.length := by
  unfold wholeO
  rw [List.length_map]
  exact List.length_filter_le _ _

/-- What a round keeps, by one step more. -/
theorem KpC.grow {n₀ b1 : Nat} {W X Y : World} {row : Option Nat} (h : KpC n₀ b1 W X) (hn : n₀ ≤ X.heap.size) (hg : X.grownBy Y row) (hr : ∀ r, row = some r → n₀ ≤ r ∧ r ≠ b1 ∧ ∀ cs t, X.heap[r]? = some (.cells cs t (0, 0)) → t ≠ 75 ∧ t ≠ 89 ∧ t ≠ 108) : KpC n₀ b1 W Y :=
  ⟨h.1.grown hg hn (fun k e => (hr k e).1), fun k cs t hk ht => by
    have hx := h.2 k cs t hk ht
    refine (hg.block k (Array.getElem?_eq_some_iff.1 hx).1 (fun e => ?_)).trans hx
    obtain ⟨_, h2, h3⟩ := hr k e.symm
    obtain ⟨h4, h5, h6⟩ := h3 cs t hx
    rcases ht with ht | ht | ht | ht
    · exact h2 ht
    · exact h4 ht
    · exact h5 ht
    · exact h6 ht⟩

/-- What holds within a round. -/
def WhV (w : World) (R : Nat) (K m : Int) (tv pv v0 v : Value) (xs : List Int) (W : World) : Prop :=
  (Whole W (w.heap.size + 1) 3 #[.int .i64 K] ∧ Whole W R 75 #[.int .i64 m, tv, pv] ∧ Whole W (R + 1) 22 #[v0]) ∧ RowIs W (R + 1 + 1 + 1 + 1) v xs ∧ Below w.heap.size w W ∧ R + 1 + 1 + 1 + 1 ≤ W.heap.size ∧ w.heap.size + 1 < R
section
variable {w : World} {R : Nat} {K m : Int} {tv pv v0 v : Value} {xs : List Int} {X Y : World} {row : Option Nat}
theorem WhV.own {C : Nat} (h : WhV w R K m tv pv v0 v xs X) (hg : X.grownBy Y row) (hB : R + 1 + 1 + 1 + 1 ≤ C) (hr : ∀ r, row = some r → C ≤ r ∧ ∃ o : Obj, X.heap[r]? = some o ∧ o.isCells = false) : WhV w R K m tv pv v0 v xs Y := by
  obtain ⟨⟨h1, h2, h3⟩, h5, h8, h9, hA⟩ := h
  have hr2 := fun r e => (hr r e).2
  have hw := fun (B : Nat) (t : TypeId) (cs : Array Value) (h : Whole X B t cs) => whole_own (β := Unit) B t (fun _ => cs) () X Y row h hg hr2
  exact ⟨⟨hw _ _ _ h1, hw _ _ _ h2, hw _ _ _ h3⟩, h5.own hg hr2, ownFrom_below (β := Unit) (Nat.le_refl _) (by omega) () X Y row h8 hg hr, Nat.le_trans h9 hg.size, hA⟩
theorem WhV.below (h : WhV w R K m tv pv v0 v xs X) (hb : Below X.heap.size X Y) : WhV w R K m tv pv v0 v xs Y :=
  h.own (C := X.heap.size) (grown_of_below hb none) h.2.2.2.1 (fun r e => by cases e)
theorem WhV.append {o : Obj} {v' : Value} {ys : List Int} (h : WhV w R K m tv pv v0 v xs X) (hg : (X.alloc o).grownBy Y v.ownBlock) (hrow : RowIs Y (R + 1 + 1 + 1 + 1) v' ys) : WhV w R K m tv pv v0 v' ys Y := by
  obtain ⟨⟨h1, h2, h3⟩, h5, h8, h9, hA⟩ := h
  refine ⟨⟨(h1.alloc o).grown hg (h5.ne (by omega)), (h2.alloc o).grown hg (h5.ne (by omega)), (h3.alloc o).grown hg (h5.ne (by omega))⟩, hrow, (below_alloc h8 o).grown hg (below_alloc h8 o).size (fun k e => by have := (h5.block e).1; omega), ?_, hA⟩
  have := hg.size
  simp at this
  omega
theorem WhV.store (h : WhV w R K m tv pv v0 v xs X) : WhV w R K m tv pv v v xs (X.setCell ⟨R + 1, 0, none⟩ v) := by
  obtain ⟨⟨h1, h2, h3⟩, h5, h8, h9, hA⟩ := h
  have hg := setCell_grown X (R + 1) 0 v
  exact ⟨⟨h1.grown hg (fun e => by injection e with e; omega), h2.grown hg (fun e => by injection e with e; omega), by have := h3.set 0 v; simpa using this⟩, h5.far hg (by omega), h8.grown hg h8.size (fun k e => by injection e with e; omega), Nat.le_trans h9 hg.size, hA⟩
theorem WhV.facts (h : WhV w R K m tv pv v0 v xs X) :
    X.cell? ⟨w.heap.size + 1, 0, none⟩ = some (.int .i64 K) ∧ (X.cell? ⟨R, 0, none⟩ = some (.int .i64 m) ∧ X.cell? ⟨R, 1, none⟩ = some tv ∧ X.cell? ⟨R, 2, none⟩ = some pv) ∧ (X.cell? ⟨R + 1, 0, none⟩ = some v0 ∧ X.frozen? ⟨R + 1, 0, none⟩ = false) ∧ R + 1 + 1 + 1 + 1 ≤ X.heap.size :=
  ⟨h.1.1.one.1, ⟨h.1.2.1.cell 0, h.1.2.1.cell 1, h.1.2.1.cell 2⟩, ⟨h.1.2.2.one.1, h.1.2.2.one.2.1⟩, h.2.2.2.1⟩
end
theorem RowIs.typed {W : World} {B : Nat} {v : Value} {xs : List Int} (h : RowIs W B v xs) {r : Nat} (hr : v.ownBlock = some r) {cs : Array Value} {t : TypeId} (hc : W.heap[r]? = some (.cells cs t (0, 0))) : t = 3 := by
  obtain ⟨_, h | ⟨g, cap, cur, rfl, hb, h3, _⟩⟩ := h
  · rw [h.1] at hr; cases hr
  · cases hr
    rw [h3] at hc
    cases hc
    rfl
/-- The cells of a course in its box. -/
theorem Whole.course {W : World} {b : Nat} {v0 v1 v2 v3 v4 v5 v6 v7 v8 v9 v10 v11 v12 : Value} (h : Whole W b 89 #[v0, v1, v2, v3, v4, v5, v6, v7, v8, v9, v10, v11, v12]) :
    W.cell? ⟨b, 0, none⟩ = some v0 ∧ W.cell? ⟨b, 1, none⟩ = some v1 ∧ W.cell? ⟨b, 2, none⟩ = some v2 ∧ W.cell? ⟨b, 3, none⟩ = some v3 ∧ W.cell? ⟨b, 4, none⟩ = some v4 ∧ W.cell? ⟨b, 5, none⟩ = some v5 ∧ W.cell? ⟨b, 6, none⟩ = some v6 ∧ W.cell? ⟨b, 7, none⟩ = some v7 ∧ W.cell? ⟨b, 8, none⟩ = some v8 ∧ W.cell? ⟨b, 9, none⟩ = some v9 ∧ W.cell? ⟨b, 10, none⟩ = some v10 ∧ W.cell? ⟨b, 11, none⟩ = some v11 ∧ W.cell? ⟨b, 12, none⟩ = some v12 ∧ b < W.heap.size :=
  ⟨h.cell 0, h.cell 1, h.cell 2, h.cell 3, h.cell 4, h.cell 5, h.cell 6, h.cell 7, h.cell 8, h.cell 9, h.cell 10, h.cell 11, h.cell 12, h.lt⟩
end Go.Proofs.Ytkjojcepombhpaa.L
