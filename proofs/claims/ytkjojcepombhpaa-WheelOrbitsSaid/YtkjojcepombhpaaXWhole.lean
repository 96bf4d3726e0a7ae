import Derived.Sort.QuietIn
import Derived.Test.YtkjojcepombhpaaM4
import Derived.Test.YtkjojcepombhpaaXCycle
import Derived.Test.YtkjojcepombhpaaXForm
import Derived.Test.YtkjojcepombhpaaXFollows
import Derived.Shelf.SortM.Plain
import Derived.Shelf.SortM.SortNone
import Derived.Ground.SlgmProg
import Derived.Sort.OwnSortedInts

/- A region that draws its order and leaves the world alone, within a round of a loop over an iterator: the kit's law of the quiet region, where the round does not matter (no operation defers). -/
namespace Go
section
variable {F : Fence} {n : Nat} {P : Program} {ops : Array Oper} {md : Region.Mode} {C : World → Prop}

def Oper.noDefer (o : Oper) : Bool := match o.op with | .defer _ => false | _ => true
theorem Oper.noDefer_spec {o : Oper} (h : o.noDefer = true) : ∀ c, o.op ≠ .defer c := by
  intro c e
  unfold Oper.noDefer at h
  rw [e] at h
  cases h

theorem Oper.wpIn_of_quietR {o : Oper} {a : Act} {K : Act → Prop} {K' : Act → World → Prop} {Q' : Exit → Act → World → Prop} {w : World} (hro : o.noDefer = true) (hw : C w) (h : ∀ a w', C w' → K a → K' a w')
    (ha : o.askedIn F P a C) (hh : o.quietIn F n P a C K) : o.wpIn F n P a w K' Q' := by
  obtain ⟨v, h1, h2⟩ := hh
  have h3 := h1 w hw
  unfold Oper.quietAtIn at h3
  unfold Oper.wpIn
  refine ⟨ha w hw, ?_⟩
  rw [Oper.semAt_eq _ _ _ (Oper.noDefer_spec hro)]
  generalize (execOp a.eval o).run P w = r at *
  cases r with
  | ok x w' =>
    cases x <;> simp only [Oper.quietUponIn] at h3 <;> simp only [Oper.uponIn]
    case value u =>
      obtain ⟨e1, e2⟩ := h3
      rw [e1, e2]
      exact h _ _ hw h2
    case skip =>
      obtain ⟨e1, e2⟩ := h3
      rw [e1, ← e2]
      exact h _ _ hw h2
    case enter f args =>
      obtain ⟨e1, hd, hc⟩ := h3
      rw [e1]
      exact ⟨hd, hc.mono fun e w'' ⟨he, hw''⟩ => by subst he; exact h _ _ hw'' h2⟩
  | halt x w' => simp only [Oper.quietUponIn] at h3

theorem wpOpIn_of_qOpInR {i : Nat} {a : Act} {K : Act → Prop} {K' : Act → World → Prop} {Q' : Exit → Act → World → Prop} {w : World} (hro : ops.all Oper.noDefer = true) (hC : C w) (h : ∀ a w', C w' → K a → K' a w')
    (hh : qOpIn F n P ops C i K a) : wpOpIn F n P ops Q' i K' a w := by
  unfold qOpIn at hh
  unfold wpOpIn
  split
  · rename_i ho; simp only [ho] at hh; exact h _ _ hC hh
  · rename_i o ho
    simp only [ho] at hh
    obtain ⟨ha, hh⟩ := hh
    have hd : o.noDefer = true := Array.all_eq_true_iff_forall_mem.1 hro o (Array.mem_of_getElem? ho)
    split
    · rename_i hw; simp only [hw, if_true] at hh; exact Oper.wpIn_of_quietR hd hC h ha hh
    · rename_i hw; simp only [hw] at hh; exact ⟨ha w hC, h _ _ hC hh⟩

theorem wpAnyIn_of_quietR {Q : Act → Prop} {Q' : Exit → Act → World → Prop} (hro : ops.all Oper.noDefer = true) (hQ : ∀ a w, C w → Q a → Q' .normal a w) : ∀ (fuel : Nat) (listed : Array Bool) (a : Act) (w : World), C w →
    wpAnyQIn F n P md ops C Q fuel listed a → wpAnyIn F n P md ops Q' fuel listed a w
  | 0, _, _, _, hw, h => ⟨h.1, hQ _ _ hw h.2⟩
  | fuel + 1, _, _, _, hw, h => ⟨fun h0 => hQ _ _ hw (h.1 h0), fun i hi => wpOpIn_of_qOpInR hro hw (fun a' w' hw' => wpAnyIn_of_quietR hro hQ fuel _ a' w' hw') (h.2 i hi)⟩

theorem wpIn_region_quietR {id : Nat} {Q : Exit → Act → World → Prop} {a : Act} {w : World} (hro : ops.all Oper.noDefer = true) (hm : P.follows .mixedOrders = true) (hB : Region.lexB .any ops = true) (hC : C { w with drawn := w.drawn + 1 })
    (h : wpQuietIn F n P ops C (fun a' => ∀ w', C w' → Q .normal a' w') ops.toList a) : (Code.region id ops true).wpIn F n P Q a w := by
  simp only [Region.lexB, Bool.and_eq_true] at hB
  refine wpIn_region_any hm (wpAnyIn_of_quietR (Q := fun a' => ∀ w', C w' → Q .normal a' w') hro (fun _ w' hw' h => h w' hw') _ _ _ _ hC ?_)
  have := wpAnyQIn_lex (F := F) (n := n) (C := C) (md := .any) hB.1 ops.toList 0 (Array.replicate ops.size false) a (by simp) (by simpa using hB.2) h
  simpa using this

theorem wpIn_region_quiet_litR {id : Nat} {Q : Exit → Act → World → Prop} {a : Act} {w : World} {l : List Oper} (hro : l.toArray.all Oper.noDefer = true) (hm : P.follows .mixedOrders = true) (hB : Region.lexB .any l.toArray = true)
    (h : wpQuietIn F n P l.toArray (fun w' => ∃ n, w' = w.drewN n) (fun a' => ∀ w', (∃ n, w' = w.drewN n) → Q .normal a' w') l a) : (Code.region id l.toArray true).wpIn F n P Q a w :=
  wpIn_region_quietR (C := fun w' => ∃ n, w' = w.drewN n) hro hm hB ⟨1, rfl⟩ (by simpa using h)
end
end Go

/- Whole: the words of its loop. -/
namespace Go.Proofs.Ytkjojcepombhpaa.L
set_option linter.unusedVariables false
set_option linter.unusedSimpArgs false
open Go.RowKit Go.Shelf Go.Proofs.YtkjojcepombhpaaW.PrintWords Go.Proofs.YtkjojcepombhpaaW.PrintLast Go.Proofs.YtkjojcepombhpaaW.PrintMore
attribute [local go_sem] Oper.semAt_some

def wholeX (m : Int) (t p l : List Int) : Int := fixNum (formW m t p l).1 (formW m t p l).2.1 (formW m t p l).2.2
def wholeB (m : Int) (t p : List Int) (K : Int) (l : List Int) : Bool :=
  decide (fixDen (formW m t p l).1 (formW m t p l).2.1 (formW m t p l).2.2 = 1) && (followsW m t p l (wholeX m t p l) && (decide ((cycleW m t p (wholeX m t p l) K).2.2 = 0) && (decide (((cycleW m t p (wholeX m t p l) K).1.length : Int) = K) && decide (rd (cycleW m t p (wholeX m t p l) K).1 0 = wholeX m t p l))))
def wholeO (m : Int) (t p : List Int) (K : Int) (ls : List (List Int)) : List Int := (ls.filter (wholeB m t p K)).map (wholeX m t p)
theorem wholeO_snoc (m : Int) (t p : List Int) (K : Int) (ls : List (List Int)) (l : List Int) : wholeO m t p K (ls ++ [l]) = if wholeB m t p K l then wholeO m t p K ls ++ [wholeX m t p l] else wholeO m t p K ls := by
  unfold wholeO
  rw [List.filter_append]
  split <;> simp_all
theorem wholeO_length (m : Int) (t p : List Int) (K : Int) (ls : List (List Int)) : (wholeO m t p K ls).length ≤ ls.length := by
  unfold wholeO
  rw [List.length_map]
  exact List.length_filter_le _ _

/-- What a round keeps, by one step more. -/
theorem KpC.grow {n₀ b1 : Nat} {W X Y : World} {row : Option Nat} (h : KpC n₀ b1 W X) (hn : n₀ ≤ X.heap.size) (hg : X.grownBy Y row) (hr : ∀ r, row = some r → n₀ ≤ r ∧ r ≠ b1 ∧ ∀ cs t, X.heap[r]? = some (.cells cs t (0, 0)) → t ≠ 75 ∧ t ≠ 89 ∧ t ≠ 108) : KpC n₀ b1 W Y :=
  ⟨h.1.grown hg hn (fun k e => (hr k e).1), fun k cs t hk ht => by
    have hx := h.2 k cs t hk ht
    refine (hg.block k (Array.getElem?_eq_some_iff.1 hx).1 (fun e => ?_)).trans hx
    obtain ⟨_, h2, h3⟩ := hr k e.symm
    obtain ⟨h4, h5, h6⟩ := h3 cs t hx
    rcases ht with ht | ht | ht | ht
    · exact h2 ht
    · exact h4 ht
    · exact h5 ht
    · exact h6 ht⟩

/-- What holds within a round. -/
def WhV (w : World) (R : Nat) (K m : Int) (tv pv v0 v : Value) (xs : List Int) (W : World) : Prop :=
  (Whole W (w.heap.size + 1) 3 #[.int .i64 K] ∧ Whole W R 75 #[.int .i64 m, tv, pv] ∧ Whole W (R + 1) 22 #[v0]) ∧ RowIs W (R + 1 + 1 + 1 + 1) v xs ∧ Below w.heap.size w W ∧ R + 1 + 1 + 1 + 1 ≤ W.heap.size ∧ w.heap.size + 1 < R
section
variable {w : World} {R : Nat} {K m : Int} {tv pv v0 v : Value} {xs : List Int} {X Y : World} {row : Option Nat}
theorem WhV.own {C : Nat} (h : WhV w R K m tv pv v0 v xs X) (hg : X.grownBy Y row) (hB : R + 1 + 1 + 1 + 1 ≤ C) (hr : ∀ r, row = some r → C ≤ r ∧ ∃ o : Obj, X.heap[r]? = some o ∧ o.isCells = false) : WhV w R K m tv pv v0 v xs Y := by
  obtain ⟨⟨h1, h2, h3⟩, h5, h8, h9, hA⟩ := h
  have hr2 := fun r e => (hr r e).2
  have hw := fun (B : Nat) (t : TypeId) (cs : Array Value) (h : Whole X B t cs) => whole_own (β := Unit) B t (fun _ => cs) () X Y row h hg hr2
  exact ⟨⟨hw _ _ _ h1, hw _ _ _ h2, hw _ _ _ h3⟩, h5.own hg hr2, ownFrom_below (β := Unit) (Nat.le_refl _) (by omega) () X Y row h8 hg hr, Nat.le_trans h9 hg.size, hA⟩
theorem WhV.below (h : WhV w R K m tv pv v0 v xs X) (hb : Below X.heap.size X Y) : WhV w R K m tv pv v0 v xs Y :=
  h.own (C := X.heap.size) (grown_of_below hb none) h.2.2.2.1 (fun r e => by cases e)
theorem WhV.append {o : Obj} {v' : Value} {ys : List Int} (h : WhV w R K m tv pv v0 v xs X) (hg : (X.alloc o).grownBy Y v.ownBlock) (hrow : RowIs Y (R + 1 + 1 + 1 + 1) v' ys) : WhV w R K m tv pv v0 v' ys Y := by
  obtain ⟨⟨h1, h2, h3⟩, h5, h8, h9, hA⟩ := h
  refine ⟨⟨(h1.alloc o).grown hg (h5.ne (by omega)), (h2.alloc o).grown hg (h5.ne (by omega)), (h3.alloc o).grown hg (h5.ne (by omega))⟩, hrow, (below_alloc h8 o).grown hg (below_alloc h8 o).size (fun k e => by have := (h5.block e).1; omega), ?_, hA⟩
  have := hg.size
  simp at this
  omega
theorem WhV.store (h : WhV w R K m tv pv v0 v xs X) : WhV w R K m tv pv v v xs (X.setCell ⟨R + 1, 0, none⟩ v) := by
  obtain ⟨⟨h1, h2, h3⟩, h5, h8, h9, hA⟩ := h
  have hg := setCell_grown X (R + 1) 0 v
  exact ⟨⟨h1.grown hg (fun e => by injection e with e; omega), h2.grown hg (fun e => by injection e with e; omega), by have := h3.set 0 v; simpa using this⟩, h5.far hg (by omega), h8.grown hg h8.size (fun k e => by injection e with e; omega), Nat.le_trans h9 hg.size, hA⟩
theorem WhV.facts (h : WhV w R K m tv pv v0 v xs X) :
    X.cell? ⟨w.heap.size + 1, 0, none⟩ = some (.int .i64 K) ∧ (X.cell? ⟨R, 0, none⟩ = some (.int .i64 m) ∧ X.cell? ⟨R, 1, none⟩ = some tv ∧ X.cell? ⟨R, 2, none⟩ = some pv) ∧ (X.cell? ⟨R + 1, 0, none⟩ = some v0 ∧ X.frozen? ⟨R + 1, 0, none⟩ = false) ∧ R + 1 + 1 + 1 + 1 ≤ X.heap.size :=
  ⟨h.1.1.one.1, ⟨h.1.2.1.cell 0, h.1.2.1.cell 1, h.1.2.1.cell 2⟩, ⟨h.1.2.2.one.1, h.1.2.2.one.2.1⟩, h.2.2.2.1⟩
end
theorem RowIs.typed {W : World} {B : Nat} {v : Value} {xs : List Int} (h : RowIs W B v xs) {r : Nat} (hr : v.ownBlock = some r) {cs : Array Value} {t : TypeId} (hc : W.heap[r]? = some (.cells cs t (0, 0))) : t = 3 := by
  obtain ⟨_, h | ⟨g, cap, cur, rfl, hb, h3, _⟩⟩ := h
  · rw [h.1] at hr; cases hr
  · cases hr
    rw [h3] at hc
    cases hc
    rfl
/-- The cells of a course in its box. -/
theorem Whole.course {W : World} {b : Nat} {v0 v1 v2 v3 v4 v5 v6 v7 v8 v9 v10 v11 v12 : Value} (h : Whole W b 89 #[v0, v1, v2, v3, v4, v5, v6, v7, v8, v9, v10, v11, v12]) :
    W.cell? ⟨b, 0, none⟩ = some v0 ∧ W.cell? ⟨b, 1, none⟩ = some v1 ∧ W.cell? ⟨b, 2, none⟩ = some v2 ∧ W.cell? ⟨b, 3, none⟩ = some v3 ∧ W.cell? ⟨b, 4, none⟩ = some v4 ∧ W.cell? ⟨b, 5, none⟩ = some v5 ∧ W.cell? ⟨b, 6, none⟩ = some v6 ∧ W.cell? ⟨b, 7, none⟩ = some v7 ∧ W.cell? ⟨b, 8, none⟩ = some v8 ∧ W.cell? ⟨b, 9, none⟩ = some v9 ∧ W.cell? ⟨b, 10, none⟩ = some v10 ∧ W.cell? ⟨b, 11, none⟩ = some v11 ∧ W.cell? ⟨b, 12, none⟩ = some v12 ∧ b < W.heap.size :=
  ⟨h.cell 0, h.cell 1, h.cell 2, h.cell 3, h.cell 4, h.cell 5, h.cell 6, h.cell 7, h.cell 8, h.cell 9, h.cell 10, h.cell 11, h.cell 12, h.lt⟩
end Go.Proofs.Ytkjojcepombhpaa.L

/- Whole comes to what wheel_Whole.f says. -/
namespace Go.Proofs.Ytkjojcepombhpaa.L
set_option linter.unusedVariables false
set_option linter.unusedSimpArgs false
open Go.RowKit Go.Shelf Go.Proofs.YtkjojcepombhpaaW.PrintWords Go.Proofs.YtkjojcepombhpaaW.PrintLast Go.Proofs.YtkjojcepombhpaaW.PrintMore
attribute [local go_sem] Oper.semAt_some

def Whs.sortA_ren : Go.Shelf.Ren := ⟨fun | 5 => 69 | 8 => 88 | 7 => 87 | 19 => 105 | 20 => 106 | 10 => 96 | 11 => 97 | 12 => 98 | 13 => 99 | 14 => 100 | 15 => 101 | 16 => 102 | 17 => 103 | 18 => 104 | 30 => 117 | 31 => 118 | 32 => 119 | 33 => 120 | 34 => 121 | 35 => 115 | 40 => 125 | n => n, fun | 23 => 22 | 25 => 3 | 3 => 3 | 32 => 101 | 22 => 22 | 0 => 0 | 44 => 126 | 46 => 128 | 4 => 4 | 36 => 119 | 35 => 118 | 41 => 109 | 5 => 5 | 9 => 9 | 53 => 134 | 57 => 138 | 63 => 142 | 64 => 143 | n => n, fun | n => n⟩
theorem Whs.sortA : Go.Proofs.SlLaysM.n5 Try.prog Whs.sortA_ren := {
  mixed := by kernel_rfl
  f5 := ⟨Try.f69.name, by decide, Try.func69.trans (congrArg some (by kernel_rfl))⟩
  f7 := ⟨Try.f87.name, by decide, Try.func87.trans (congrArg some (by kernel_rfl))⟩
  f8 := Try.func88.trans (congrArg some (by kernel_rfl))
  f10 := ⟨Try.f96.name, by decide, Try.func96.trans (congrArg some (by kernel_rfl))⟩
  f11 := ⟨Try.f97.name, by decide, Try.func97.trans (congrArg some (by kernel_rfl))⟩
  f12 := ⟨Try.f98.name, by decide, Try.func98.trans (congrArg some (by kernel_rfl))⟩
  f13 := ⟨Try.f99.name, by decide, Try.func99.trans (congrArg some (by kernel_rfl))⟩
  f14 := ⟨Try.f100.name, by decide, Try.func100.trans (congrArg some (by kernel_rfl))⟩
  f15 := ⟨Try.f101.name, by decide, Try.func101.trans (congrArg some (by kernel_rfl))⟩
  f16 := ⟨Try.f102.name, by decide, Try.func102.trans (congrArg some (by kernel_rfl))⟩
  f17 := ⟨Try.f103.name, by decide, Try.func103.trans (congrArg some (by kernel_rfl))⟩
  f18 := ⟨Try.f104.name, by decide, Try.func104.trans (congrArg some (by kernel_rfl))⟩
  f19 := Try.func105.trans (congrArg some (by kernel_rfl))
  f20 := Try.func106.trans (congrArg some (by kernel_rfl))
  f30 := ⟨Try.f117.name, by decide, Try.func117.trans (congrArg some (by kernel_rfl))⟩
  f31 := Try.func118.trans (congrArg some (by kernel_rfl))
  f32 := Try.func119.trans (congrArg some (by kernel_rfl))
  f33 := ⟨Try.f120.name, by decide, Try.func120.trans (congrArg some (by kernel_rfl))⟩
  f34 := ⟨Try.f121.name, by decide, Try.func121.trans (congrArg some (by kernel_rfl))⟩
  f35 := ⟨Try.f115.name, by decide, Try.func115.trans (congrArg some (by kernel_rfl))⟩
  f40 := ⟨Try.f125.name, by decide, Try.func125.trans (congrArg some (by kernel_rfl))⟩
  t0 := Try.underlying0
  a0 := Try.isAgg0
  z0 := Try.sizeOf0
  v0 := Try.zeroValue0
  t3 := Try.underlying3
  a3 := Try.isAgg3
  z3 := Try.sizeOf3
  v3 := Try.zeroValue3
  t4 := Try.underlying4
  a4 := Try.isAgg4
  z4 := Try.sizeOf4
  v4 := Try.zeroValue4
  t5 := Try.underlying5
  a5 := Try.isAgg5
  z5 := Try.sizeOf5
  v5 := Try.zeroValue5
  t9 := Try.underlying9
  a9 := Try.isAgg9
  z9 := Try.sizeOf9
  v9 := Try.zeroValue9
  t22 := Try.underlying22
  a22 := Try.isAgg22
  z22 := Try.sizeOf22
  v22 := Try.zeroValue22
  t23 := Try.underlying22
  a23 := Try.isAgg22
  z23 := Try.sizeOf22
  v23 := Try.zeroValue22
  t25 := Try.underlying3
  a25 := Try.isAgg3
  z25 := Try.sizeOf3
  v25 := Try.zeroValue3
  t32 := Try.underlying101
  a32 := Try.isAgg101
  z32 := Try.sizeOf101
  v32 := Try.zeroValue101
  t35 := Try.underlying118
  a35 := Try.isAgg118
  z35 := Try.sizeOf118
  v35 := Try.zeroValue118
  t36 := Try.underlying119
  a36 := Try.isAgg119
  z36 := Try.sizeOf119
  v36 := Try.zeroValue119
  t41 := Try.underlying109
  a41 := Try.isAgg109
  z41 := Try.sizeOf109
  v41 := Try.zeroValue109
  t44 := Try.underlying126
  a44 := Try.isAgg126
  z44 := Try.sizeOf126
  v44 := Try.zeroValue126
  t46 := Try.underlying128
  a46 := Try.isAgg128
  z46 := Try.sizeOf128
  v46 := Try.zeroValue128
  t53 := Try.underlying134
  a53 := Try.isAgg134
  z53 := Try.sizeOf134
  v53 := Try.zeroValue134
  t57 := Try.underlying138
  a57 := Try.isAgg138
  z57 := Try.sizeOf138
  v57 := Try.zeroValue138
  t63 := Try.underlying142
  a63 := Try.isAgg142
  z63 := Try.sizeOf142
  v63 := Try.zeroValue142
  t64 := Try.underlying143
  a64 := Try.isAgg143
  z64 := Try.sizeOf143
  v64 := Try.zeroValue143 }

def wholeL (m : Int) (t p : List Int) (K : Int) : List Int := (wholeO m t p K (extC m.toNat K.toNat [])).mergeSort fun x y => decide (x ≤ y)
def wheel_Whole.f (m : Int) (t p : List Int) (K : Int) : Option (List Int × Int) := some (if ruleB m t p && inB K 1 5 then (wholeL m t p K, 0) else ([], 2))

/-- A row of the call's own, sorted. -/
theorem sort_own (B : Nat) (v : Value) (xs : List Int) (W : World) (h : RowIs W B v xs) (hl : xs.length < 100000) :
    Calls Try.prog 69 #[v] W fun e w' => e = .returned (.tuple #[]) ∧ RowIs w' B v (xs.mergeSort fun x y => decide (x ≤ y)) ∧ W.grownBy w' v.ownBlock := by
  obtain ⟨h0, h | ⟨g, cap, cur, rfl, hb, hc, h1, h2, h3, h4⟩⟩ := h
  · obtain ⟨rfl, hx⟩ := h
    have : xs = [] := List.length_eq_zero_iff.1 hx
    subst this
    refine (AnyM.slices_Sort_int_none Whs.sortA none 0 W).mono ?_
    rintro e w' ⟨rfl, rfl⟩
    exact ⟨rfl, by simpa using RowIs.nil _ _, grown_of_below (Below.refl _ _) _⟩
  · have hH := holds_of_blockI hc (ss := xs) (by simpa [encs] using h4)
    refine (AnyM.slices_Sort_int Whs.sortA g 0 cap xs W hH (Array.getElem?_eq_some_iff.1 hc).1 (by omega)).mono ?_
    rintro e w' ⟨rfl, n, os, rfl⟩
    have hlen : (xs.mergeSort fun x y => decide (x ≤ y)).length = xs.length := List.length_mergeSort xs
    refine ⟨rfl, ?_, grownBy_sortedI _⟩
    unfold RowIs
    rw [hlen]
    exact ownsRow_sortedI hlen hb hc h1 h2 h3

set_option maxHeartbeats 2000000 in
theorem whole_bad (m : Int) (A1 : Option Addr) (c1 : Nat) (t : List Int) (A2 : Option Addr) (c2 : Nat) (p : List Int) (K : Int) (w : World) (h1 : Kd.C (Kd.int .i64) w A1 t.length t) (h2 : Kd.C (Kd.int .i64) w A2 p.length p) (hb : (ruleB m t p && inB K 1 5) = false) :
    Calls Try.prog 30 #[.agg #[.int .i64 m, .slice A1 t.length c1, .slice A2 p.length c2], .int .i64 K] w fun e w' => e = .returned (.tuple #[.slice none 0 0, .int .i64 2]) ∧ Below w.heap.size w w' := by
  have HA := Lib.hid h1
  have HB := Lib.hid h2
  clear h1 h2
  have B0 := below_alloc (below_alloc (Below.refl w.heap.size w) (rbox24 m (.slice A1 t.length c1) (.slice A2 p.length c2))) (.cells #[.int .i64 K] 3)
  have F0 := Whole.new (w.alloc (rbox24 m (.slice A1 t.length c1) (.slice A2 p.length c2))) 3 #[.int .i64 K]
  rw [World.size_alloc] at F0
  have HF0 := Lib.hid F0
  have HN := Lib.hid (newRule_any m A1 A2 c1 c2 t p _ (Kd.C_below HA.out B0) (Kd.C_below HB.out B0))
  clear F0
  cases hq : ruleB m t p
  · rw [hq] at HN
    clear hb hq
    go_enter Try.func30, Try.ntmps30
    go_wp2_with (go_at_call 58; refine HN.out.mono ?_; rintro e w1 ⟨rfl, hb⟩; have HB1 := Lib.hid hb; clear hb)
    go_ret2
    exact ⟨rfl, below_alloc (below_then B0 B0.size HB1.out) _⟩
  · rw [hq] at HN hb
    have hi : inB K 1 5 = false := by simpa using hb
    clear hb hq
    go_enter Try.func30, Try.ntmps30
    go_wp2_with (first
      | (go_at_call 58; refine HN.out.mono ?_; rintro e w1 ⟨rfl, hb⟩; obtain ⟨x1, _, _⟩ := (HF0.out.below hb HF0.out.lt).one; have HB1 := Lib.hid hb; clear hb)
      | (go_at_call 60; refine (within_any _ _ _ _).mono ?_; rintro e w2 ⟨rfl, rfl⟩))
    go_ret2
    exact ⟨rfl, below_alloc (below_then B0 B0.size HB1.out) _⟩

set_option maxRecDepth 100000 in
set_option maxHeartbeats 8000000 in
theorem whole_ok (M : Nat) (A1 : Option Addr) (c1 : Nat) (t : List Int) (A2 : Option Addr) (c2 : Nat) (p : List Int) (K : Nat) (w : World) (h1 : Kd.C (Kd.int .i64) w A1 t.length t) (h2 : Kd.C (Kd.int .i64) w A2 p.length p) (hrb : ruleB M t p = true) (hi : inB K 1 5 = true) (res : List Int) (hres : wholeO M t p K (extC M K []) = res) :
    Calls Try.prog 30 #[.agg #[.int .i64 (M : Int), .slice A1 t.length c1, .slice A2 p.length c2], .int .i64 (K : Int)] w fun e w' => ∃ v : Value, e = .returned (.tuple #[v, .int .i64 0]) ∧ RowIs w' w.heap.size v (res.mergeSort fun x y => decide (x ≤ y)) ∧ Below w.heap.size w w' := by
  have HRES := Lib.hid hres
  have hk : 1 ≤ K ∧ K ≤ 5 := by have : (1 : Int) ≤ K ∧ (K : Int) ≤ 5 := by simpa [inB] using hi
                                omega
  have hR := ruleB_is hrb
  have hM : 2 ≤ M ∧ M ≤ 6 := by have := hR.m2; have := hR.m6; omega
  have HRU := Lib.hid hR
  have HA := Lib.hid h1
  have HB := Lib.hid h2
  have B0 := below_alloc (below_alloc (Below.refl w.heap.size w) (rbox24 M (.slice A1 t.length c1) (.slice A2 p.length c2))) (.cells #[.int .i64 (K : Int)] 3)
  have F0 := Whole.new (w.alloc (rbox24 M (.slice A1 t.length c1) (.slice A2 p.length c2))) 3 #[.int .i64 (K : Int)]
  rw [World.size_alloc] at F0
  have HF0 := Lib.hid F0
  have HN := Lib.hid (newRule_any M A1 A2 c1 c2 t p _ (Kd.C_below HA.out B0) (Kd.C_below HB.out B0))
  rw [hrb] at HN
  have HB0 := Lib.hid B0
  clear F0 h1 h2 hres hR hrb B0
  refine (callsIn_wide (n := 6)).1 ?_
  refine callsIn_of_wp_marks Try.func30 rfl trivial ?_ rfl
  simp only [Try.ntmps30, List.size_toArray, List.length_cons, List.length_nil, Nat.reduceAdd, Nat.reduceSub, Array.replicate_succ, Array.replicate_zero, List.push_toArray, List.append_toArray, List.nil_append, List.cons_append]
  gi_wp2_with (first
    | (refine ⟨trivial, ?_⟩; gi_at_call 58; refine (callsIn_wide.2 HN.out).mono ?_; rintro e w1 ⟨rfl, hb⟩; have f1 := HF0.out.below hb HF0.out.lt; obtain ⟨x1, _, z1⟩ := f1.one; obtain ⟨x2, _, _⟩ := ((f1.alloc (.cells #[.int .i64 (M : Int), .slice A1 t.length c1, .slice A2 p.length c2] 75)).alloc (.cells #[.slice none 0 0] 22)).one; have F1 := Lib.hid f1; have HBW := Lib.hid (below_then HB0.out HB0.out.size hb); clear hb f1)
    | (refine ⟨trivial, ?_⟩; gi_at_call 60; refine (callsIn_wide.2 (within_any _ _ _ _)).mono ?_; rintro e w2 ⟨rfl, rfl⟩)
    | (refine ⟨trivial, ?_⟩; gi_at_call 64; refine (callsIn_wide.2 (courses_any M (.slice A1 t.length c1) (.slice A2 p.length c2) K _ rfl rfl)).mono ?_; rintro e w2 ⟨rfl, rfl⟩))
  obtain ⟨R, hRR⟩ : ∃ R, R = w1.heap.size := ⟨_, rfl⟩
  obtain ⟨W0, hW0⟩ : ∃ W0, W0 = laid w1 [rbox M (.slice A1 t.length c1) (.slice A2 p.length c2), .cells #[.slice none 0 0] 22, rbox M (.slice A1 t.length c1) (.slice A2 p.length c2), .cells #[.int .i64 (K : Int)] 3] := ⟨_, rfl⟩
  have hat := laid_at [rbox M (.slice A1 t.length c1) (.slice A2 p.length c2), .cells #[.slice none 0 0] 22, rbox M (.slice A1 t.length c1) (.slice A2 p.length c2), .cells #[.int .i64 (K : Int)] 3] w1
  have g9 := laid_below [rbox M (.slice A1 t.length c1) (.slice A2 p.length c2), .cells #[.slice none 0 0] 22, rbox M (.slice A1 t.length c1) (.slice A2 p.length c2), .cells #[.int .i64 (K : Int)] 3] w1
  have hsz := laid_size [rbox M (.slice A1 t.length c1) (.slice A2 p.length c2), .cells #[.slice none 0 0] 22, rbox M (.slice A1 t.length c1) (.slice A2 p.length c2), .cells #[.int .i64 (K : Int)] 3] w1
  rw [← hW0] at hat g9 hsz
  have q1 : Whole W0 R 75 #[.int .i64 (M : Int), .slice A1 t.length c1, .slice A2 p.length c2] := hRR ▸ hat 0 _ rfl
  have q2 : Whole W0 (R + 1) 22 #[.slice none 0 0] := hRR ▸ hat 1 _ rfl
  have q3 : Whole W0 (R + 1 + 1) 75 #[.int .i64 (M : Int), .slice A1 t.length c1, .slice A2 p.length c2] := hRR ▸ hat 2 _ rfl
  have q4 : Whole W0 (R + 1 + 1 + 1) 3 #[.int .i64 (K : Int)] := hRR ▸ hat 3 _ rfl
  have q5 : Whole W0 (w.heap.size + 1) 3 #[.int .i64 (K : Int)] := F1.out.below g9 z1
  clear hat
  have hbW := HBW.out
  have g8 : Below w.heap.size w W0 := below_then hbW hbW.size g9
  have hW1 := hW0
  simp only [laid, List.foldl] at hW1
  rw [← hW1]
  clear hW0 hW1
  simp only [List.length_cons, List.length_nil] at hsz
  replace hsz := Nat.le_of_eq hsz.symm
  rw [← hRR] at hsz ⊢
  have zR : w.heap.size + 1 < R := by omega
  clear hRR g9 x1 x2 z1 HN HF0 F1 HBW HB0 hbW
  have HG8 := Lib.hid g8
  have hseq := courses_gives w.heap.size (R + 1 + 1 + 1) (R + 1 + 1) K M (.slice A1 t.length c1) (.slice A2 p.length c2) W0 (by omega) (by omega) g8.size q4 q3
  have hO : WhV w R K M (.slice A1 t.length c1) (.slice A2 p.length c2) (.slice none 0 0) (.slice none 0 0) [] W0 := ⟨⟨q5, q1, q2⟩, RowIs.nil _ _, g8, by omega, zR⟩
  clear q1 q2 q3 q4 q5
  refine wpIn_rangeT (by omega) (gf := 84) (lb := #[.pointer (some ⟨R + 1 + 1 + 1, 0, none⟩), .pointer (some ⟨R + 1 + 1, 0, none⟩)]) rfl (enters_of Try.func84 (by kernel_rfl) rfl) hseq (fun h k => KpC_t h k) ?hKb (fun W W' hs hb => KpC_below hb (by have := g8.size; omega)) (Below.refl _ _) (fun _ => rfl)
    (fun pre W => ∃ v, WhV w R K M (.slice A1 t.length c1) (.slice A2 p.length c2) v v (wholeO M t p K pre) W)
    (fun pre X Y row h hg hr => h.imp fun v h => h.own hg (C := W0.heap.size) (by omega) hr)
    ⟨_, hO⟩ 89 (fun l => crs l)
    ?a1 ?assign ?body ?done
  case hKb =>
    intro W l o o' hl ho hc hw
    refine ⟨belowK_b (by have := g8.size; omega) W l o o' hl ho hc hw, fun k cs tt hk _ => ?_⟩
    by_cases e : k = l
    · subst e; rw [ho] at hk; cases hk; cases hc
    · exact (World.putObj_heap_other e).trans hk
  case assign =>
    intro l x b W KK hx hb hK
    obtain ⟨hxl, _, _⟩ := extC_mem M K [] x hx
    obtain ⟨a0, a1, a2, a3, a4, a5, a6, a7, a8, a9, a10, a11, hL⟩ := twelve (padL x) (padL_length x (by simp at hxl; omega))
    have hc : crs x = #[.int .i64 (K : Int), .int .i64 a0, .int .i64 a1, .int .i64 a2, .int .i64 a3, .int .i64 a4, .int .i64 a5, .int .i64 a6, .int .i64 a7, .int .i64 a8, .int .i64 a9, .int .i64 a10, .int .i64 a11] := by
      unfold crs cC; rw [hL, hxl]; simp
    have HK := Lib.hid hK
    have HX := Lib.hid hc
    clear hK hL
    rw [hc]
    clear hc
    gi_wp2
    rw [← HX.out]
    have hb2 := below_alloc (Below.refl W.heap.size W) (.cells (crs x) 89)
    have hw2 := Whole.new W 89 (crs x)
    rw [hb] at hb2 hw2
    exact HK.out _ hb2 hw2
  case body =>
    intro l pre x b W hl hpx hb hwb hI
    obtain ⟨v, hV⟩ := hI
    have hx : x ∈ extC M K [] := hpx.subset (by simp)
    have hplen : pre.length < 100000 := by
      have h1 := hpx.length_le
      rw [extC_length] at h1
      have h2 : M ^ K ≤ 6 ^ K := Nat.pow_le_pow_left hM.2 K
      have h3 : 6 ^ K ≤ 6 ^ 5 := Nat.pow_le_pow_right (by omega) hk.2
      have e : 6 ^ 5 = 7776 := by decide
      simp at h1
      omega
    obtain ⟨hxl, hcr, _⟩ := extC_mem M K [] x hx
    replace hcr := hcr (by intro r hr; simp at hr)
    replace hxl : x.length = K := by simpa using hxl
    obtain ⟨a0, a1, a2, a3, a4, a5, a6, a7, a8, a9, a10, a11, hL⟩ := twelve (padL x) (padL_length x (by omega))
    have hc : crs x = #[.int .i64 (K : Int), .int .i64 a0, .int .i64 a1, .int .i64 a2, .int .i64 a3, .int .i64 a4, .int .i64 a5, .int .i64 a6, .int .i64 a7, .int .i64 a8, .int .i64 a9, .int .i64 a10, .int .i64 a11] := by
      unfold crs cC; rw [hL, hxl]; simp
    have htk : [a0, a1, a2, a3, a4, a5, a6, a7, a8, a9, a10, a11].take K = x := by rw [← hL, ← hxl]; exact padL_take x
    obtain ⟨ra, rb, rd', hf⟩ : ∃ ra rb rd', formW M t p x = (ra, rb, rd') := ⟨_, _, _, rfl⟩
    have hfi := formIn HRU.out hcr
    have hne := form_ne HRU.out hcr (by intro e; rw [e] at hxl; simp at hxl; omega)
    rw [hf] at hfi hne
    rw [hxl] at hfi
    have hsm := hfi.small (by omega)
    have e5 := pow20_le hk.2
    have e6 : (20 : Int) ^ 5 = 3200000 := by decide
    have e7 := pow6_pos K
    have q1 := hfi.a1
    have q2 := hfi.b1
    have q3 := hfi.b2
    have q4 := hfi.d1
    simp only at q1 q2 q3 q4 hsm hne
    obtain ⟨num, hnum⟩ : ∃ num, fixNum ra rb rd' = num := ⟨_, rfl⟩
    obtain ⟨den, hden⟩ : ∃ den, fixDen ra rb rd' = den := ⟨_, rfl⟩
    have hnb := fixNum_bound ra rb rd' 20000000 (by omega) (by omega) (by omega)
    rw [hnum] at hnb
    have hX : wholeX M t p x = num := by unfold wholeX; rw [hf]; exact hnum
    have hC1 := fun X (hb : Below W.heap.size W X) => Kd.C_below HA.out (hV.below hb).2.2.1
    have hC2 := fun X (hb : Below W.heap.size W X) => Kd.C_below HB.out (hV.below hb).2.2.1
    have HC65 := Lib.hid (form_any M A1 A2 c1 c2 t p K a0 a1 a2 a3 a4 a5 a6 a7 a8 a9 a10 a11 W HRU.out (by omega) (by rw [htk]; exact hcr) (hC1 W (Below.refl _ _)) (hC2 W (Below.refl _ _)) ra rb rd' (by rw [htk]; exact hf))
    have HC66 := Lib.hid (fun X => fixed_any ra rb rd' X ⟨by omega, by omega⟩ ⟨by omega, by omega⟩ ⟨by omega, by omega⟩ hne)
    rw [hnum, hden] at HC66
    have HC67 := Lib.hid (fun X hb => follows_any M A1 A2 c1 c2 t p num K a0 a1 a2 a3 a4 a5 a6 a7 a8 a9 a10 a11 K X HRU.out (by omega) (fun i hi => iter_mid5 HRU.out hnb.1 hnb.2 i (by omega)) (hC1 X hb) (hC2 X hb))
    rw [htk] at HC67
    obtain ⟨⟨cl, ci, ce⟩, hcy⟩ : ∃ r, cycleW M t p num K = r := ⟨_, rfl⟩
    have HC68 := Lib.hid (fun X hb => cycle_any M A1 c1 t A2 c2 p num K X (hC1 X hb) (hC2 X hb) HRU.out (by omega) _ hcy)
    have hB : wholeB M t p K x = (decide (den = 1) && (followsW M t p x num && (decide (ce = 0) && (decide ((cl.length : Int) = K) && decide (rd cl 0 = num))))) := by
      unfold wholeB; rw [hX, hcy, hf]; simp only; rw [hden]
    have HBB := Lib.hid hB
    have hO := wholeO_snoc M t p K pre x
    rw [hX] at hO
    have HO := Lib.hid hO
    have HV := Lib.hid hV
    rw [hc] at hwb
    have HWB := Lib.hid hwb
    obtain ⟨y1, ⟨y2, y3, y4⟩, ⟨y5, y6⟩, y7⟩ := hV.facts
    obtain ⟨z0, z1, z2, z3, z4, z5, z6, z7, z8, z9, z10, z11, z12, z13⟩ := hwb.course
    have hol := wholeO_length M t p K pre
    rw [hc]
    clear hC1 hC2 hcy hB hO hV hwb hnum hden hX hf hfi hc hL htk e5 e6 e7 q1 q2 q3 q4 hsm hne hnb hx hcr hpx hxl hseq
    cases hd1 : decide (den = 1)
    · have HNO := Lib.hid (show wholeO M t p K (pre ++ [x]) = wholeO M t p K pre by rw [HO.out, HBB.out, hd1]; rfl)
      have hd2 : (den == 1) = false := by simpa using hd1
      have hd3 : (den != 1) = true := by simpa using hd1
      have hd4 : decide (¬ den = 1) = true := by simpa using hd1
      gi_wp2_with (first
        | (refine ⟨trivial, rfl, ?_⟩; gi_at_call 65; refine (CallsIn.inRound l (callsIn_wide.2 HC65.out)).mono ?_; rintro e X1 ⟨rfl, hb1⟩; have HB1 := Lib.hid hb1; clear hb1)
        | (refine ⟨trivial, rfl, ?_⟩; gi_at_call 66; refine (CallsIn.inRound l (callsIn_wide.2 (HC66.out X1))).mono ?_; rintro e X2 ⟨rfl, hb1⟩; have hb3 := below_alloc (below_then HB1.out HB1.out.size hb1) (.cells #[.int .i64 num, .int .i64 den] 49); obtain ⟨y1, ⟨y2, y3, y4⟩, ⟨y5, y6⟩, y7⟩ := (HV.out.below hb3).facts; obtain ⟨z0, z1, z2, z3, z4, z5, z6, z7, z8, z9, z10, z11, z12, z13⟩ := (HWB.out.below hb3 HWB.out.lt).course; have h49 := Whole.new X2 49 #[.int .i64 num, .int .i64 den]; have HB3 := Lib.hid hb3; have H49 := Lib.hid h49; have HC67' := Lib.hid (HC67.out _ hb3); clear hb1 hb3 h49)
        | (refine ⟨trivial, rfl, ?_⟩; gi_at_call 67; refine (CallsIn.inRound l (callsIn_wide.2 HC67'.out)).mono ?_; rintro e X3 ⟨rfl, hb1⟩; have h49 := H49.out.below hb1 H49.out.lt; have u0 := h49.cell 0; have u1 := h49.cell 1; have u2 := h49.lt; simp only [List.getElem?_toArray, List.getElem?_cons_zero, List.getElem?_cons_succ] at u0 u1; have hb4 := below_then HB3.out HB3.out.size hb1; obtain ⟨y1, ⟨y2, y3, y4⟩, ⟨y5, y6⟩, y7⟩ := (HV.out.below hb4).facts; have HB4 := Lib.hid hb4; have H49' := Lib.hid h49; have HC68' := Lib.hid (HC68.out _ hb4); clear hb1 hb4 h49)
        | (refine ⟨trivial, rfl, ?_⟩; gi_at_call 68; refine (CallsIn.inRound l (callsIn_wide.2 HC68'.out)).mono ?_; rintro e X4 ⟨v', rfl, hr, hb1⟩; obtain ⟨A', c', rfl, hc', hC'⟩ := hr.reads; have h49 := H49'.out.below hb1 H49'.out.lt; have t0 := h49.cell 0; have t2 := h49.lt; simp only [List.getElem?_toArray, List.getElem?_cons_zero, List.getElem?_cons_succ] at t0; have hb5 := below_then HB4.out HB4.out.size hb1; obtain ⟨y1, ⟨y2, y3, y4⟩, ⟨y5, y6⟩, y7⟩ := (HV.out.below hb5).facts; have HB5 := Lib.hid hb5; have HCL := Lib.hid hC'; have H49 := Lib.hid h49; clear hb1 hb5 h49 hr hC'))
      refine ⟨trivial, ?_⟩
      gi_wp2
      exact ⟨(keeps_below HB3.out).from _, KpC_below HB3.out (by have := HV.out.2.2.1.size; omega), v, by rw [HNO.out]; exact HV.out.below HB3.out⟩
    · have hd1' := of_decide_eq_true hd1
      subst hd1'
      cases hfo : followsW M t p x num
      · have HNO := Lib.hid (show wholeO M t p K (pre ++ [x]) = wholeO M t p K pre by rw [HO.out, HBB.out, hd1, hfo]; rfl)
        rw [hfo] at HC67
        gi_wp2_with (first
        | (refine ⟨trivial, rfl, ?_⟩; gi_at_call 65; refine (CallsIn.inRound l (callsIn_wide.2 HC65.out)).mono ?_; rintro e X1 ⟨rfl, hb1⟩; have HB1 := Lib.hid hb1; clear hb1)
        | (refine ⟨trivial, rfl, ?_⟩; gi_at_call 66; refine (CallsIn.inRound l (callsIn_wide.2 (HC66.out X1))).mono ?_; rintro e X2 ⟨rfl, hb1⟩; have hb3 := below_alloc (below_then HB1.out HB1.out.size hb1) (.cells #[.int .i64 num, .int .i64 1] 49); obtain ⟨y1, ⟨y2, y3, y4⟩, ⟨y5, y6⟩, y7⟩ := (HV.out.below hb3).facts; obtain ⟨z0, z1, z2, z3, z4, z5, z6, z7, z8, z9, z10, z11, z12, z13⟩ := (HWB.out.below hb3 HWB.out.lt).course; have h49 := Whole.new X2 49 #[.int .i64 num, .int .i64 1]; have HB3 := Lib.hid hb3; have H49 := Lib.hid h49; have HC67' := Lib.hid (HC67.out _ hb3); clear hb1 hb3 h49)
        | (refine ⟨trivial, rfl, ?_⟩; gi_at_call 67; refine (CallsIn.inRound l (callsIn_wide.2 HC67'.out)).mono ?_; rintro e X3 ⟨rfl, hb1⟩; have h49 := H49.out.below hb1 H49.out.lt; have u0 := h49.cell 0; have u1 := h49.cell 1; have u2 := h49.lt; simp only [List.getElem?_toArray, List.getElem?_cons_zero, List.getElem?_cons_succ] at u0 u1; have hb4 := below_then HB3.out HB3.out.size hb1; obtain ⟨y1, ⟨y2, y3, y4⟩, ⟨y5, y6⟩, y7⟩ := (HV.out.below hb4).facts; have HB4 := Lib.hid hb4; have H49' := Lib.hid h49; have HC68' := Lib.hid (HC68.out _ hb4); clear hb1 hb4 h49)
        | (refine ⟨trivial, rfl, ?_⟩; gi_at_call 68; refine (CallsIn.inRound l (callsIn_wide.2 HC68'.out)).mono ?_; rintro e X4 ⟨v', rfl, hr, hb1⟩; obtain ⟨A', c', rfl, hc', hC'⟩ := hr.reads; have h49 := H49'.out.below hb1 H49'.out.lt; have t0 := h49.cell 0; have t2 := h49.lt; simp only [List.getElem?_toArray, List.getElem?_cons_zero, List.getElem?_cons_succ] at t0; have hb5 := below_then HB4.out HB4.out.size hb1; obtain ⟨y1, ⟨y2, y3, y4⟩, ⟨y5, y6⟩, y7⟩ := (HV.out.below hb5).facts; have HB5 := Lib.hid hb5; have HCL := Lib.hid hC'; have H49 := Lib.hid h49; clear hb1 hb5 h49 hr hC'))
        exact ⟨(keeps_below HB4.out).from _, KpC_below HB4.out (by have := HV.out.2.2.1.size; omega), v, by rw [HNO.out]; exact HV.out.below HB4.out⟩
      · rw [hfo] at HC67
        cases hce : decide (ce = 0)
        · have HNO := Lib.hid (show wholeO M t p K (pre ++ [x]) = wholeO M t p K pre by rw [HO.out, HBB.out, hd1, hfo, hce]; rfl)
          have hce2 : (ce == 0) = false := by simpa using hce
          have hce3 : ¬ ce = 0 := of_decide_eq_false hce
          gi_wp2_with (first
        | (refine ⟨trivial, rfl, ?_⟩; gi_at_call 65; refine (CallsIn.inRound l (callsIn_wide.2 HC65.out)).mono ?_; rintro e X1 ⟨rfl, hb1⟩; have HB1 := Lib.hid hb1; clear hb1)
        | (refine ⟨trivial, rfl, ?_⟩; gi_at_call 66; refine (CallsIn.inRound l (callsIn_wide.2 (HC66.out X1))).mono ?_; rintro e X2 ⟨rfl, hb1⟩; have hb3 := below_alloc (below_then HB1.out HB1.out.size hb1) (.cells #[.int .i64 num, .int .i64 1] 49); obtain ⟨y1, ⟨y2, y3, y4⟩, ⟨y5, y6⟩, y7⟩ := (HV.out.below hb3).facts; obtain ⟨z0, z1, z2, z3, z4, z5, z6, z7, z8, z9, z10, z11, z12, z13⟩ := (HWB.out.below hb3 HWB.out.lt).course; have h49 := Whole.new X2 49 #[.int .i64 num, .int .i64 1]; have HB3 := Lib.hid hb3; have H49 := Lib.hid h49; have HC67' := Lib.hid (HC67.out _ hb3); clear hb1 hb3 h49)
        | (refine ⟨trivial, rfl, ?_⟩; gi_at_call 67; refine (CallsIn.inRound l (callsIn_wide.2 HC67'.out)).mono ?_; rintro e X3 ⟨rfl, hb1⟩; have h49 := H49.out.below hb1 H49.out.lt; have u0 := h49.cell 0; have u1 := h49.cell 1; have u2 := h49.lt; simp only [List.getElem?_toArray, List.getElem?_cons_zero, List.getElem?_cons_succ] at u0 u1; have hb4 := below_then HB3.out HB3.out.size hb1; obtain ⟨y1, ⟨y2, y3, y4⟩, ⟨y5, y6⟩, y7⟩ := (HV.out.below hb4).facts; have HB4 := Lib.hid hb4; have H49' := Lib.hid h49; have HC68' := Lib.hid (HC68.out _ hb4); clear hb1 hb4 h49)
        | (refine ⟨trivial, rfl, ?_⟩; gi_at_call 68; refine (CallsIn.inRound l (callsIn_wide.2 HC68'.out)).mono ?_; rintro e X4 ⟨v', rfl, hr, hb1⟩; obtain ⟨A', c', rfl, hc', hC'⟩ := hr.reads; have h49 := H49'.out.below hb1 H49'.out.lt; have t0 := h49.cell 0; have t2 := h49.lt; simp only [List.getElem?_toArray, List.getElem?_cons_zero, List.getElem?_cons_succ] at t0; have hb5 := below_then HB4.out HB4.out.size hb1; obtain ⟨y1, ⟨y2, y3, y4⟩, ⟨y5, y6⟩, y7⟩ := (HV.out.below hb5).facts; have HB5 := Lib.hid hb5; have HCL := Lib.hid hC'; have H49 := Lib.hid h49; clear hb1 hb5 h49 hr hC'))
          refine wpIn_region_quiet_litR (by kernel_rfl) (by kernel_rfl) (by kernel_rfl) ?_
          repeat (gi_big_quiet_step (fail))
          refine wpQuietIn_nil ?_
          intro _ hw'
          obtain ⟨nq, hw''⟩ := hw'
          subst hw''
          gi_wp2
          have hb6 := below_then HB5.out HB5.out.size (drewN_below ⟨nq, rfl⟩)
          exact ⟨(keeps_below hb6).from _, KpC_below hb6 (by have := HV.out.2.2.1.size; omega), v, by rw [HNO.out]; exact HV.out.below hb6⟩
        · have hce' := of_decide_eq_true hce
          subst hce'
          cases hln : ((cl.length : Int) == (K : Int))
          · have hln2 : decide ((cl.length : Int) = (K : Int)) = false := by simpa using hln
            have HNO := Lib.hid (show wholeO M t p K (pre ++ [x]) = wholeO M t p K pre by rw [HO.out, HBB.out, hd1, hfo, hce, hln2]; rfl)
            gi_wp2_with (first
        | (refine ⟨trivial, rfl, ?_⟩; gi_at_call 65; refine (CallsIn.inRound l (callsIn_wide.2 HC65.out)).mono ?_; rintro e X1 ⟨rfl, hb1⟩; have HB1 := Lib.hid hb1; clear hb1)
        | (refine ⟨trivial, rfl, ?_⟩; gi_at_call 66; refine (CallsIn.inRound l (callsIn_wide.2 (HC66.out X1))).mono ?_; rintro e X2 ⟨rfl, hb1⟩; have hb3 := below_alloc (below_then HB1.out HB1.out.size hb1) (.cells #[.int .i64 num, .int .i64 1] 49); obtain ⟨y1, ⟨y2, y3, y4⟩, ⟨y5, y6⟩, y7⟩ := (HV.out.below hb3).facts; obtain ⟨z0, z1, z2, z3, z4, z5, z6, z7, z8, z9, z10, z11, z12, z13⟩ := (HWB.out.below hb3 HWB.out.lt).course; have h49 := Whole.new X2 49 #[.int .i64 num, .int .i64 1]; have HB3 := Lib.hid hb3; have H49 := Lib.hid h49; have HC67' := Lib.hid (HC67.out _ hb3); clear hb1 hb3 h49)
        | (refine ⟨trivial, rfl, ?_⟩; gi_at_call 67; refine (CallsIn.inRound l (callsIn_wide.2 HC67'.out)).mono ?_; rintro e X3 ⟨rfl, hb1⟩; have h49 := H49.out.below hb1 H49.out.lt; have u0 := h49.cell 0; have u1 := h49.cell 1; have u2 := h49.lt; simp only [List.getElem?_toArray, List.getElem?_cons_zero, List.getElem?_cons_succ] at u0 u1; have hb4 := below_then HB3.out HB3.out.size hb1; obtain ⟨y1, ⟨y2, y3, y4⟩, ⟨y5, y6⟩, y7⟩ := (HV.out.below hb4).facts; have HB4 := Lib.hid hb4; have H49' := Lib.hid h49; have HC68' := Lib.hid (HC68.out _ hb4); clear hb1 hb4 h49)
        | (refine ⟨trivial, rfl, ?_⟩; gi_at_call 68; refine (CallsIn.inRound l (callsIn_wide.2 HC68'.out)).mono ?_; rintro e X4 ⟨v', rfl, hr, hb1⟩; obtain ⟨A', c', rfl, hc', hC'⟩ := hr.reads; have h49 := H49'.out.below hb1 H49'.out.lt; have t0 := h49.cell 0; have t2 := h49.lt; simp only [List.getElem?_toArray, List.getElem?_cons_zero, List.getElem?_cons_succ] at t0; have hb5 := below_then HB4.out HB4.out.size hb1; obtain ⟨y1, ⟨y2, y3, y4⟩, ⟨y5, y6⟩, y7⟩ := (HV.out.below hb5).facts; have HB5 := Lib.hid hb5; have HCL := Lib.hid hC'; have H49 := Lib.hid h49; clear hb1 hb5 h49 hr hC'))
            refine wpIn_region_quiet_litR (by kernel_rfl) (by kernel_rfl) (by kernel_rfl) ?_
            repeat (gi_big_quiet_step (fail))
            refine wpQuietIn_nil ?_
            intro _ hw'
            obtain ⟨nq, hw''⟩ := hw'
            subst hw''
            gi_wp2
            have hb6 := below_then HB5.out HB5.out.size (drewN_below ⟨nq, rfl⟩)
            exact ⟨(keeps_below hb6).from _, KpC_below hb6 (by have := HV.out.2.2.1.size; omega), v, by rw [HNO.out]; exact HV.out.below hb6⟩
          · have hln2 : decide ((cl.length : Int) = (K : Int)) = true := by simpa using hln
            have hln3 : (cl.length : Int) = (K : Int) := of_decide_eq_true hln2
            have hlp : (0 : Int) < (cl.length : Int) := by omega
            cases hhd : (rd cl 0 == num)
            · have hhd2 : decide (rd cl 0 = num) = false := by simpa using hhd
              have HNO := Lib.hid (show wholeO M t p K (pre ++ [x]) = wholeO M t p K pre by rw [HO.out, HBB.out, hd1, hfo, hce, hln2, hhd2]; rfl)
              gi_wp2_with (first
        | (refine ⟨trivial, rfl, ?_⟩; gi_at_call 65; refine (CallsIn.inRound l (callsIn_wide.2 HC65.out)).mono ?_; rintro e X1 ⟨rfl, hb1⟩; have HB1 := Lib.hid hb1; clear hb1)
        | (refine ⟨trivial, rfl, ?_⟩; gi_at_call 66; refine (CallsIn.inRound l (callsIn_wide.2 (HC66.out X1))).mono ?_; rintro e X2 ⟨rfl, hb1⟩; have hb3 := below_alloc (below_then HB1.out HB1.out.size hb1) (.cells #[.int .i64 num, .int .i64 1] 49); obtain ⟨y1, ⟨y2, y3, y4⟩, ⟨y5, y6⟩, y7⟩ := (HV.out.below hb3).facts; obtain ⟨z0, z1, z2, z3, z4, z5, z6, z7, z8, z9, z10, z11, z12, z13⟩ := (HWB.out.below hb3 HWB.out.lt).course; have h49 := Whole.new X2 49 #[.int .i64 num, .int .i64 1]; have HB3 := Lib.hid hb3; have H49 := Lib.hid h49; have HC67' := Lib.hid (HC67.out _ hb3); clear hb1 hb3 h49)
        | (refine ⟨trivial, rfl, ?_⟩; gi_at_call 67; refine (CallsIn.inRound l (callsIn_wide.2 HC67'.out)).mono ?_; rintro e X3 ⟨rfl, hb1⟩; have h49 := H49.out.below hb1 H49.out.lt; have u0 := h49.cell 0; have u1 := h49.cell 1; have u2 := h49.lt; simp only [List.getElem?_toArray, List.getElem?_cons_zero, List.getElem?_cons_succ] at u0 u1; have hb4 := below_then HB3.out HB3.out.size hb1; obtain ⟨y1, ⟨y2, y3, y4⟩, ⟨y5, y6⟩, y7⟩ := (HV.out.below hb4).facts; have HB4 := Lib.hid hb4; have H49' := Lib.hid h49; have HC68' := Lib.hid (HC68.out _ hb4); clear hb1 hb4 h49)
        | (refine ⟨trivial, rfl, ?_⟩; gi_at_call 68; refine (CallsIn.inRound l (callsIn_wide.2 HC68'.out)).mono ?_; rintro e X4 ⟨v', rfl, hr, hb1⟩; obtain ⟨A', c', rfl, hc', hC'⟩ := hr.reads; obtain ⟨ad, rfl, had⟩ := Kd.at_int hC' 0 (by omega) (by omega); replace had : X4.cell? ad = some (.int .i64 (rd cl 0)) := had; have h49 := H49'.out.below hb1 H49'.out.lt; have t0 := h49.cell 0; have t2 := h49.lt; simp only [List.getElem?_toArray, List.getElem?_cons_zero, List.getElem?_cons_succ] at t0; have hb5 := below_then HB4.out HB4.out.size hb1; obtain ⟨y1, ⟨y2, y3, y4⟩, ⟨y5, y6⟩, y7⟩ := (HV.out.below hb5).facts; have HB5 := Lib.hid hb5; have HCL := Lib.hid hC'; have H49 := Lib.hid h49; clear hb1 hb5 h49 hr hC'))
              refine wpIn_region_quiet_litR (by kernel_rfl) (by kernel_rfl) (by kernel_rfl) ?_
              repeat (gi_big_quiet_step (fail))
              refine wpQuietIn_nil ?_
              intro _ hw'
              obtain ⟨nq, hw''⟩ := hw'
              subst hw''
              gi_wp2
              have hb6 := below_then HB5.out HB5.out.size (drewN_below ⟨nq, rfl⟩)
              exact ⟨(keeps_below hb6).from _, KpC_below hb6 (by have := HV.out.2.2.1.size; omega), v, by rw [HNO.out]; exact HV.out.below hb6⟩
            · have hhd2 : decide (rd cl 0 = num) = true := by simpa using hhd
              have HNO := Lib.hid (show wholeO M t p K (pre ++ [x]) = wholeO M t p K pre ++ [num] by rw [HO.out, HBB.out, hd1, hfo, hce, hln2, hhd2]; rfl)
              gi_wp2_with (first
        | (refine ⟨trivial, rfl, ?_⟩; gi_at_call 65; refine (CallsIn.inRound l (callsIn_wide.2 HC65.out)).mono ?_; rintro e X1 ⟨rfl, hb1⟩; have HB1 := Lib.hid hb1; clear hb1)
        | (refine ⟨trivial, rfl, ?_⟩; gi_at_call 66; refine (CallsIn.inRound l (callsIn_wide.2 (HC66.out X1))).mono ?_; rintro e X2 ⟨rfl, hb1⟩; have hb3 := below_alloc (below_then HB1.out HB1.out.size hb1) (.cells #[.int .i64 num, .int .i64 1] 49); obtain ⟨y1, ⟨y2, y3, y4⟩, ⟨y5, y6⟩, y7⟩ := (HV.out.below hb3).facts; obtain ⟨z0, z1, z2, z3, z4, z5, z6, z7, z8, z9, z10, z11, z12, z13⟩ := (HWB.out.below hb3 HWB.out.lt).course; have h49 := Whole.new X2 49 #[.int .i64 num, .int .i64 1]; have HB3 := Lib.hid hb3; have H49 := Lib.hid h49; have HC67' := Lib.hid (HC67.out _ hb3); clear hb1 hb3 h49)
        | (refine ⟨trivial, rfl, ?_⟩; gi_at_call 67; refine (CallsIn.inRound l (callsIn_wide.2 HC67'.out)).mono ?_; rintro e X3 ⟨rfl, hb1⟩; have h49 := H49.out.below hb1 H49.out.lt; have u0 := h49.cell 0; have u1 := h49.cell 1; have u2 := h49.lt; simp only [List.getElem?_toArray, List.getElem?_cons_zero, List.getElem?_cons_succ] at u0 u1; have hb4 := below_then HB3.out HB3.out.size hb1; obtain ⟨y1, ⟨y2, y3, y4⟩, ⟨y5, y6⟩, y7⟩ := (HV.out.below hb4).facts; have HB4 := Lib.hid hb4; have H49' := Lib.hid h49; have HC68' := Lib.hid (HC68.out _ hb4); clear hb1 hb4 h49)
        | (refine ⟨trivial, rfl, ?_⟩; gi_at_call 68; refine (CallsIn.inRound l (callsIn_wide.2 HC68'.out)).mono ?_; rintro e X4 ⟨v', rfl, hr, hb1⟩; obtain ⟨A', c', rfl, hc', hC'⟩ := hr.reads; obtain ⟨ad, rfl, had⟩ := Kd.at_int hC' 0 (by omega) (by omega); replace had : X4.cell? ad = some (.int .i64 (rd cl 0)) := had; have h49 := H49'.out.below hb1 H49'.out.lt; have t0 := h49.cell 0; have t2 := h49.lt; simp only [List.getElem?_toArray, List.getElem?_cons_zero, List.getElem?_cons_succ] at t0; have hb5 := below_then HB4.out HB4.out.size hb1; obtain ⟨y1, ⟨y2, y3, y4⟩, ⟨y5, y6⟩, y7⟩ := (HV.out.below hb5).facts; have HB5 := Lib.hid hb5; have HCL := Lib.hid hC'; have H49 := Lib.hid h49; clear hb1 hb5 h49 hr hC'))
              refine wpIn_region_quiet_litR (by kernel_rfl) (by kernel_rfl) (by kernel_rfl) ?_
              repeat (gi_big_quiet_step (fail))
              refine wpQuietIn_nil ?_
              intro _ hw'
              obtain ⟨nq, hw''⟩ := hw'
              subst hw''
              have HB6 := Lib.hid (below_then HB5.out HB5.out.size (drewN_below ⟨nq, rfl⟩))
              gi_wp2_with (first
              | (gi_at_builtin; refine appendI _ rfl (.tmp 83) (.tmp 86) rfl (R + 1 + 1 + 1 + 1) v (wholeO M t p K pre) rfl ((HV.out.below HB6.out).2.1.alloc _) (X4.drewN nq).heap.size num rfl ((Whole.new (X4.drewN nq) 3 #[.int .i64 num]).cell 0) (by omega) (Nat.le_trans (HV.out.below HB6.out).2.2.2.1 (below_alloc (Below.refl _ (X4.drewN nq)) (.cells #[.int .i64 num] 3)).size) ?_; intro v' w2 hrow hgrow hat; have hV4 := (HV.out.below HB6.out).append hgrow hrow; have hC4 := ((KpC_below (b1 := R + 1 + 1 + 1) HB6.out HV.out.2.2.1.size).grow (HV.out.below HB6.out).2.2.1.size (World.grownBy_alloc _ (.cells #[.int .i64 num] 3) none) (fun r e => by cases e)).grow (below_alloc (HV.out.below HB6.out).2.2.1 (.cells #[.int .i64 num] 3)).size hgrow (fun r e => ⟨by have := ((HV.out.below HB6.out).2.1.block e).1; omega, by have := ((HV.out.below HB6.out).2.1.block e).1; omega, fun cs tt hh => by have := ((HV.out.below HB6.out).2.1.alloc (.cells #[.int .i64 num] 3)).typed e hh; subst this; exact ⟨by decide, by decide, by decide⟩⟩); have hK4 := ((keeps_below HB6.out).trans (KeepsOthers.alloc _ (.cells #[.int .i64 num] 3))).trans (KeepsOthers.of_grownBy hgrow (fun j o e ho => by obtain ⟨_, _, o', ho', hc'⟩ := ((HV.out.below HB6.out).2.1.alloc (.cells #[.int .i64 num] 3)).block e; rw [ho] at ho'; cases ho'; exact hc')); obtain ⟨y1, _, ⟨y5, y6⟩, y7⟩ := hV4.facts; have HV4 := Lib.hid hV4; have HC4 := Lib.hid hC4; have HK4 := Lib.hid hK4; obtain ⟨g', cap', rfl⟩ := hrow.form (by simp); clear hV4 hC4 hK4 hrow hgrow hat))
              have hV5 := HV4.out.store
              have hC5 := HC4.out.grow HV4.out.2.2.1.size (setCell_grown w2 (R + 1) 0 (.slice (some ⟨g', 0, none⟩) (wholeO M t p K pre ++ [num]).length cap')) (fun r e => by injection e with e; subst e; exact ⟨by omega, by omega, fun cs tt hh => by rw [show w2.heap[R + 1]? = _ from HV4.out.1.2.2] at hh; cases hh; exact ⟨by decide, by decide, by decide⟩⟩)
              have el : (wholeO M t p K pre ++ [num]).length = (wholeO M t p K pre).length + 1 := by simp
              rw [el] at hV5 hC5
              exact ⟨(HK4.out.trans (KeepsOthers.setCell _ _ _)).from _, hC5, _, by rw [HNO.out]; exact hV5⟩
  case done =>
    intro D W hD hI hK hD2
    obtain ⟨v, hV⟩ := hI
    have hlen : (wholeO M t p K (extC M K [])).length < 100000 := by
      have h0 := wholeO_length M t p K (extC M K [])
      rw [extC_length] at h0
      have h2 : M ^ K ≤ 6 ^ K := Nat.pow_le_pow_left hM.2 K
      have h3 : 6 ^ K ≤ 6 ^ 5 := Nat.pow_le_pow_right (by omega) hk.2
      have e : 6 ^ 5 = 7776 := by decide
      omega
    rw [HRES.out] at hV hlen
    have HC69 := Lib.hid (sort_own (R + 1 + 1 + 1 + 1) v res W hV.2.1 hlen)
    obtain ⟨y1, _, ⟨y5, y6⟩, y7⟩ := hV.facts
    have HV := Lib.hid hV
    have HK := Lib.hid hK
    clear hV hK hO hseq
    gi_wp2_with (refine ⟨trivial, ?_⟩; gi_at_call 69; refine (callsIn_wide.2 HC69.out).mono ?_; rintro e w3 ⟨rfl, hr, hg⟩; have y5 := (HV.out.1.2.2.grown hg (fun e => by have := (HV.out.2.1.block e.symm).1; omega)).one.1; have HR := Lib.hid hr; have HG := Lib.hid hg; clear hr hg)
    have hD3 : w3.heap[D]? = some (.deferred (some [])) := (HG.out.block D (Array.getElem?_eq_some_iff.1 HK.out).1 (fun e => by obtain ⟨_, _, o', ho', hc'⟩ := HV.out.2.1.block e.symm; rw [HK.out] at ho'; cases ho'; cases hc')).trans HK.out
    refine ⟨by simp, .inl ⟨_, _, rfl, run_takeDeferred hD3, ?_⟩⟩
    have hB3 : Below w.heap.size w w3 := HV.out.2.2.1.grown HG.out HV.out.2.2.1.size (fun k e => by have := (HV.out.2.1.block e).1; omega)
    have hg4 := grownBy_putObj' w3 D (.deferred none)
    exact ⟨_, results_tmp2 rfl _ _ _, v, rfl, ((HR.out.own hg4 (fun r e => by injection e with e; subst e; exact ⟨_, hD3, rfl⟩)).mono (by omega)), hB3.grown hg4 hB3.size (fun k e => by injection e with e; have := HG8.out.size; omega)⟩

set_option maxHeartbeats 1000000 in
theorem wheel_Whole.calls (m : Int) (A1 : Option Addr) (c1 : Nat) (t : List Int) (A2 : Option Addr) (c2 : Nat) (p : List Int) (K : Int) (r1 : List Int) (r2 : Int) (w : World) (h1 : Kd.C (Kd.int .i64) w A1 t.length t) (hc1 : t.length ≤ c1) (h2 : Kd.C (Kd.int .i64) w A2 p.length p) (hc2 : p.length ≤ c2) (h : wheel_Whole.f m t p K = some (r1, r2)) :
    Calls Try.prog 30 #[.agg #[.int .i64 m, .slice A1 t.length c1, .slice A2 p.length c2], .int .i64 K] w fun e w' => ∃ v0_ : Value, e = .returned (.tuple #[v0_, .int .i64 r2]) ∧ Kd.R (Kd.int .i64) 3 w' w.heap.size (fun _ => True) v0_ r1 ∧ Below w.heap.size w w' := by
  simp only [wheel_Whole.f, Option.some.injEq] at h
  cases hb : (ruleB m t p && inB K 1 5)
  · rw [hb] at h
    simp only [Bool.false_eq_true, if_false, Prod.mk.injEq] at h
    obtain ⟨rfl, rfl⟩ := h
    refine (whole_bad m A1 c1 t A2 c2 p K w h1 h2 hb).mono ?_
    rintro e w' ⟨rfl, hbel⟩
    exact ⟨_, rfl, Kd.R_nil _ _ _ _ _, hbel⟩
  · rw [hb] at h
    simp only [Bool.and_eq_true] at hb
    simp only [if_true, Prod.mk.injEq] at h
    obtain ⟨rfl, rfl⟩ := h
    have hR := ruleB_is hb.1
    have hm := hR.m2
    have hk : 1 ≤ K ∧ K ≤ 5 := by simpa [inB] using hb.2
    obtain ⟨M, rfl⟩ : ∃ M : Nat, m = M := ⟨m.toNat, by omega⟩
    obtain ⟨N, rfl⟩ : ∃ N : Nat, K = N := ⟨K.toNat, by omega⟩
    refine (whole_ok M A1 c1 t A2 c2 p N w h1 h2 hb.1 hb.2 _ rfl).mono ?_
    rintro e w' ⟨v, rfl, hv, hbel⟩
    exact ⟨_, rfl, hv.R (Nat.le_refl _), hbel⟩
end Go.Proofs.Ytkjojcepombhpaa.L
