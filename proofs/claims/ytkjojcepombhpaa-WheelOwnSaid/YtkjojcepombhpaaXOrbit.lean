import Derived.Test.YtkjojcepombhpaaXGives
import Derived.Maps.OwnSet
import Derived.Maps.OwnIn
import Derived.Test.YtkjojcepombhpaaXSend
import Derived.RangeFuncGives

/- Maps that a call makes: a set of numbers, numbers by numbers. What a look-up and a store do. -/
namespace Go.Proofs.Ytkjojcepombhpaa.L
set_option linter.unusedVariables false
set_option linter.unusedSimpArgs false
open Go.RowKit Go.Shelf Go.Maps Go.Proofs.YtkjojcepombhpaaW.PrintWords Go.Proofs.YtkjojcepombhpaaW.PrintLast Go.Proofs.YtkjojcepombhpaaW.PrintMore

/-- Block b of W is a map made by the call, whose keys are the numbers xs. -/
def SetIs (W : World) (b : Nat) (xs : List Int) : Prop :=
  ∃ D : DataW Unit, W.ownsMap Try.prog 3 (plainElem (H := Unit) Try.prog 4) b xs.length D ∧ ∀ v z, D.atKey (.int .i64 v) z = if v ∈ xs then .lit (.bool true) else z
theorem SetIs.new (w : World) : SetIs (w.alloc (.map #[] 0)) w.heap.size [] :=
  ⟨.map [], World.ownsMap_made w Try.prog 3 _, fun v z => by simp [DataW.atKey]⟩
theorem SetIs.lt {W : World} {b : Nat} {xs : List Int} (h : SetIs W b xs) : b < W.heap.size := by obtain ⟨D, h, _⟩ := h; exact h.lt
theorem SetIs.kept {W W' : World} {b : Nat} {xs : List Int} {row : Option Nat} (h : SetIs W b xs) (hg : W.grownBy W' row) (hne : some b ≠ row) : SetIs W' b xs := by
  obtain ⟨D, h, hD⟩ := h
  exact ⟨D, h.kept hg hne, hD⟩
theorem wf_small {v : Int} (h : smallB v = true) : (Lit.int .i64 v).wf = true := by
  simp only [smallB, inB, Bool.and_eq_true, decide_eq_true_eq] at h
  have e1 : IntKind.i64.min = -9223372036854775808 := rfl
  have e2 : IntKind.i64.max = 9223372036854775807 := rfl
  simp only [Lit.wf, e1, e2, Bool.and_eq_true, decide_eq_true_eq]
  omega
theorem under79 : Try.prog.underlying 79 = some (.map 3 4) := by kernel_rfl
theorem key_i64 (v : Int) : WideAt.IsKeyLit (.int .i64 v) := by trivial
theorem lit_ne {v y : Int} (h : v ≠ y) : (Lit.int .i64 v) ≠ (Lit.int .i64 y) := by
  intro e
  injection e with _ e2
  exact h e2
/-- A look-up, its run being known. -/
theorem wpListIn_lookup_run {F : Fence} {nF : Nat} {P : Program} {w : World} {ops : Array Oper} {rest : List Oper} {o : Oper} {a : Act} {Q : Exit → Act → World → Prop} (hg : o.guard = none) (m x : Operand) (t : TypeId) {ok : Bool} (hop : o.op = Op.lookup t m x ok)
    {mv key v : Value} (hm : a.eval m = mv) (hx : a.eval x = key) (hrun : (Instr.lookup t mv key ok).run P w = .ok v w) (hK : wpListIn F nF P ops Q rest (a.put o.dst v) w) :
    wpListIn F nF P ops Q (o :: rest) a w := by
  refine wpListIn_plain hg fun K' hK' => ?_
  unfold Oper.wpIn
  refine ⟨by simp [Oper.about, hop], ?_⟩
  rw [Oper.semAt_plain F _ _ (by rw [hop]; intro c hc'; cases hc')]
  simp [execOp, hop, hm, hx, hrun, Result.andThen]
  exact hK' _ _ hK
theorem SetIs.look {W : World} {b : Nat} {xs : List Int} (h : SetIs W b xs) (v : Int) (hv : (Lit.int .i64 v).wf = true) : (Instr.lookup 79 (.map (some b)) (.int .i64 v) false).run Try.prog W = .ok (.bool (xs.contains v)) W := by
  obtain ⟨D, h, hD⟩ := h
  have hz : (zeroValue 4).run Try.prog W = .ok (.bool false) W := by kernel_rfl
  obtain ⟨u, ps, hrun, hu⟩ := h.lookup (Maps.int_keyed Try.underlying3) under79 hz (plainElem_bool Try.underlying4 false) (Maps.keyOf_int_mk Try.underlying3 hv)
  rw [hrun]
  rw [hD] at hu
  have hb : ∀ q : Bool, plainElem (H := Unit) Try.prog 4 u = some (.lit (.bool q), ps) → u = .bool q := by
    intro q hq
    have hk := Try.underlying4
    generalize Try.prog = P at hk hq
    unfold plainElem at hq
    rw [hk] at hq
    cases u <;> simp at hq
    obtain ⟨rfl, _⟩ := hq
    rfl
  by_cases hm : v ∈ xs
  · rw [if_pos hm] at hu
    rw [hb _ hu, List.contains_iff_mem.2 hm]
  · rw [if_neg hm] at hu
    rw [hb _ hu]
    have : xs.contains v = false := by
      rw [Bool.eq_false_iff]
      intro hc
      exact hm (List.contains_iff_mem.1 hc)
    rw [this]
theorem SetIs.put {W : World} {b : Nat} {xs : List Int} (h : SetIs W b xs) (y : Int) (hv : (Lit.int .i64 y).wf = true) (hl : xs.length < 100000) : ∃ w', (Instr.mapUpdate 79 (.map (some b)) (.int .i64 y) (.bool true)).run Try.prog W = .ok () w' ∧ SetIs w' b (xs ++ [y]) ∧ W.grownBy w' (some b) := by
  obtain ⟨D, h, hD⟩ := h
  obtain ⟨w', r1, r2, r3⟩ := h.update (Maps.int_keyed Try.underlying3) under79 (by unfold maxLen; omega) (Maps.keyOf_int_mk Try.underlying3 hv) (plainElem_bool Try.underlying4 true)
  refine ⟨w', r1, ⟨_, by rw [List.length_append]; exact r2, fun v z => ?_⟩, r3⟩
  by_cases e : v = y
  · subst e
    rw [Maps.atKey_put_same h.isMap (key_i64 v), if_pos (by simp)]
  · rw [Maps.atKey_put_other (lit_ne e), hD]
    simp [e]
/-- A store in a map, its run being known. -/
theorem wpListIn_mapUpdate_run {F : Fence} {nF : Nat} {P : Program} {w w' : World} {ops : Array Oper} {rest : List Oper} {o : Oper} {a : Act} {Q : Exit → Act → World → Prop} (hg : o.guard = none) (m x v : Operand) (t : TypeId) (hop : o.op = Op.mapUpdate t m x v)
    {mv key val : Value} (hm : a.eval m = mv) (hx : a.eval x = key) (hv : a.eval v = val) (hrun : (Instr.mapUpdate t mv key val).run P w = .ok () w') (hK : wpListIn F nF P ops Q rest (a.put o.dst undef) w') :
    wpListIn F nF P ops Q (o :: rest) a w := by
  refine wpListIn_plain hg fun K' hK' => ?_
  unfold Oper.wpIn
  refine ⟨by simp [Oper.about, hop], ?_⟩
  rw [Oper.semAt_plain F _ _ (by rw [hop]; intro c hc'; cases hc')]
  simp [execOp, hop, hm, hx, hv, hrun, Result.andThen]
  exact hK' _ _ hK

/-- Block b of W is a map made by the call: numbers by numbers, f. -/
def NumsIs (W : World) (b n : Nat) (f : Int → Option Int) : Prop :=
  ∃ D : DataW Unit, W.ownsMap Try.prog 3 (plainElem (H := Unit) Try.prog 3) b n D ∧ ∀ v z, D.atKey (.int .i64 v) z = match f v with | some y => .lit (.int .i64 y) | none => z
theorem NumsIs.new (w : World) : NumsIs (w.alloc (.map #[] 0)) w.heap.size 0 (fun _ => none) :=
  ⟨.map [], World.ownsMap_made w Try.prog 3 _, fun v z => by simp [DataW.atKey]⟩
theorem NumsIs.lt {W : World} {b n : Nat} {f : Int → Option Int} (h : NumsIs W b n f) : b < W.heap.size := by obtain ⟨D, h, _⟩ := h; exact h.lt
theorem NumsIs.kept {W W' : World} {b n : Nat} {f : Int → Option Int} {row : Option Nat} (h : NumsIs W b n f) (hg : W.grownBy W' row) (hne : some b ≠ row) : NumsIs W' b n f := by
  obtain ⟨D, h, hD⟩ := h
  exact ⟨D, h.kept hg hne, hD⟩
theorem NumsIs.look {W : World} {b n : Nat} {f : Int → Option Int} (h : NumsIs W b n f) {t : TypeId} (ht : Try.prog.underlying t = some (.map 3 3)) (v : Int) (hv : (Lit.int .i64 v).wf = true) : (Instr.lookup t (.map (some b)) (.int .i64 v) true).run Try.prog W = .ok (.tuple #[.int .i64 ((f v).getD 0), .bool (f v).isSome]) W := by
  obtain ⟨D, h, hD⟩ := h
  have hz : (zeroValue 3).run Try.prog W = .ok (.int .i64 0) W := by kernel_rfl
  obtain ⟨u, ps, hrun, hu⟩ := h.look_ok (Maps.int_keyed Try.underlying3) ht hz (plainElem_int Try.underlying3 (a := 0) (by decide)) (Maps.keyOf_int_mk Try.underlying3 hv)
  rw [hrun]
  obtain ⟨c, rfl, hc, _⟩ := plainElem_int_inv Try.underlying3 hu
  have hc := congrArg Prod.fst hc
  simp only at hc
  rw [hD] at hc
  cases hf : f v with
  | none =>
    rw [hf] at hc
    have h1 : Maps.has D (.int .i64 v) = false := Maps.has_false_of_atKey (fun z => by rw [hD, hf])
    rw [h1]
    simp only [DataW.lit.injEq, Lit.int.injEq, true_and] at hc
    simp [← hc]
  | some y =>
    rw [hf] at hc
    have h1 : Maps.has D (.int .i64 v) = true := Maps.has_true_of_atKey (fun z => by rw [hD, hf])
    rw [h1]
    simp only [DataW.lit.injEq, Lit.int.injEq, true_and] at hc
    simp [← hc]
theorem NumsIs.put {W : World} {b n : Nat} {f : Int → Option Int} (h : NumsIs W b n f) {t : TypeId} (ht : Try.prog.underlying t = some (.map 3 3)) (y u : Int) (hv : (Lit.int .i64 y).wf = true) (hu : (Lit.int .i64 u).wf = true) (hl : n < 100000) :
    ∃ w', (Instr.mapUpdate t (.map (some b)) (.int .i64 y) (.int .i64 u)).run Try.prog W = .ok () w' ∧ NumsIs w' b (n + 1) (fun v => if v = y then some u else f v) ∧ W.grownBy w' (some b) := by
  obtain ⟨D, h, hD⟩ := h
  obtain ⟨w', r1, r2, r3⟩ := h.update (Maps.int_keyed Try.underlying3) ht (by unfold maxLen; omega) (Maps.keyOf_int_mk Try.underlying3 hv) (plainElem_int Try.underlying3 hu)
  refine ⟨w', r1, ⟨_, r2, fun v z => ?_⟩, r3⟩
  by_cases e : v = y
  · subst e
    rw [Maps.atKey_put_same h.isMap (key_i64 v)]
    simp
  · rw [Maps.atKey_put_other (lit_ne e), hD]
    simp [e]
end Go.Proofs.Ytkjojcepombhpaa.L

/- The iterator (rule).orbit: its contract. -/
namespace Go.Proofs.Ytkjojcepombhpaa.L
set_option linter.unusedVariables false
set_option linter.unusedSimpArgs false
open Go.RowKit Go.Shelf Go.Proofs.YtkjojcepombhpaaW.PrintWords Go.Proofs.YtkjojcepombhpaaW.PrintLast Go.Proofs.YtkjojcepombhpaaW.PrintMore
attribute [local go_sem] Oper.semAt_some

/-- What a round keeps: what lay below n₀, and two blocks. -/
def KpG (n₀ g1 g2 : Nat) (W W' : World) : Prop := Below n₀ W W' ∧ ∀ k, (k = g1 ∨ k = g2) → ∀ o : Obj, W.heap[k]? = some o → o.isCells = true → W'.heap[k]? = some o
theorem KpG_t {n₀ g1 g2 : Nat} {A B C : World} (h : KpG n₀ g1 g2 A B) (k : KpG n₀ g1 g2 B C) : KpG n₀ g1 g2 A C :=
  ⟨h.1.trans k.1, fun j hj o ho hc => k.2 j hj o (h.2 j hj o ho hc) hc⟩
theorem KpG_b {n₀ g1 g2 : Nat} {w : World} (hn : n₀ ≤ w.heap.size) (W : World) (l : Nat) (o o' : Obj) (hl : w.heap.size ≤ l) (h : W.heap[l]? = some o) (hc : o.isCells = false) (hw : o.isWalk = false) : KpG n₀ g1 g2 W (W.putObj l o') :=
  ⟨belowK_b hn W l o o' hl h hc hw, fun k hk q hq hqc => by
    by_cases e : k = l
    · subst e; rw [h] at hq; cases hq; rw [hc] at hqc; cases hqc
    · exact (World.putObj_heap_other e).trans hq⟩
theorem KpG.whole {n₀ g1 g2 : Nat} {W W' : World} (h : KpG n₀ g1 g2 W W') {g : Nat} {t : TypeId} {cs : Array Value} (hg : g = g1 ∨ g = g2) (hw : Whole W g t cs) : Whole W' g t cs := h.2 g hg _ hw rfl
theorem KpG.setCell {n₀ g1 g2 : Nat} (W : World) {p : Addr} (h : n₀ ≤ p.block) (h1 : g1 ≠ p.block) (h2 : g2 ≠ p.block) (u : Value) : KpG n₀ g1 g2 W (W.setCell p u) :=
  ⟨(Below.refl n₀ W).setCell h u, fun k hk o ho _ => (Below.heap_setCell W p u k (by rcases hk with rfl | rfl <;> assumption)).trans ho⟩
theorem KpG.setAt {n₀ g1 g2 : Nat} (W : World) {b : Nat} (h : n₀ ≤ b) (h1 : g1 ≠ b) (h2 : g2 ≠ b) (u : Value) : KpG n₀ g1 g2 W (W.setCell ⟨b, 0, none⟩ u) := KpG.setCell W (p := ⟨b, 0, none⟩) h h1 h2 u
theorem KpG.of_below {n₀ g1 g2 : Nat} {W W' : World} (h : Below W.heap.size W W') (hn : n₀ ≤ W.heap.size) : KpG n₀ g1 g2 W W' :=
  ⟨h.mono hn, fun k _ o ho _ => (h.block k (Array.getElem?_eq_some_iff.1 ho).1).trans ho⟩

theorem yield_any {m : Nat} (m' : Nat) {P : Program} {l : Nat} {args : Array Value} {W : World} {R : Ending → World → Prop} (h : YieldAt Fence.wide m P l args W R) : YieldAt Fence.wide m' P l args W R := by
  obtain ⟨fn, tmps, assign, body, hy, hR⟩ := h
  exact ⟨fn, tmps, assign, body, hy, hR.1, fun c cs _ => hR.2 c cs (fun d h => by cases h)⟩

theorem iterW_succ (m : Int) (t p : List Int) (k : Nat) : ∀ x, iterW m t p (k + 1) x = sentW m t p (iterW m t p k x) := by
  induction k with
  | zero => intro x; rfl
  | succ k ih => intro x; exact ih (sentW m t p x)
/-- The first k numbers of an orbit. -/
def orbTo (m : Int) (t p : List Int) (x : Int) (k : Nat) : List Int := (List.range k).map fun i => iterW m t p i x
theorem orbTo_succ (m : Int) (t p : List Int) (x : Int) (k : Nat) : orbTo m t p x (k + 1) = orbTo m t p x k ++ [iterW m t p k x] := by simp [orbTo, List.range_succ]
theorem orbTo_length (m : Int) (t p : List Int) (x : Int) (k : Nat) : (orbTo m t p x k).length = k := by simp [orbTo]
/-- All the numbers up to a large one. -/
def OrbDone (m : Int) (t p : List Int) (x : Int) (xs : List Int) : Prop := ∃ k, xs = orbTo m t p x (k + 1) ∧ (∀ i, i < k → smallB (iterW m t p i x) = true) ∧ smallB (iterW m t p k x) = false
def OrbPre (m : Int) (t p : List Int) (x : Int) (xs : List Int) : Prop := ∃ k, xs = orbTo m t p x (k + 1) ∧ ∀ i, i < k → smallB (iterW m t p i x) = true

theorem setCell_grown (W : World) (b i : Nat) (u : Value) : W.grownBy (W.setCell ⟨b, i, none⟩ u) (some b) :=
  ⟨rfl, rfl, rfl, by simp [World.setCell], fun k hk hne => Below.heap_setCell W ⟨b, i, none⟩ u k (fun e => hne (by rw [e]))⟩

set_option maxHeartbeats 1000000 in
theorem orbit_any (m : Int) (tv pv : Value) (x : Int) (w : World) (ht : tv.oneCell' = true) (hp : pv.oneCell' = true) :
    Calls Try.prog 61 #[rv m tv pv, .int .i64 x] w fun e w' => e = .returned (.func (.func 83) #[] #[.pointer (some ⟨w.heap.size + 1, 0, none⟩), .pointer (some ⟨w.heap.size, 0, none⟩)]) ∧ (w.alloc (rbox m tv pv)).alloc (.cells #[.int .i64 x] 3) = w' := by
  go_enter Try.func61, Try.ntmps61
  go_wp2
  go_ret
  exact ⟨rfl, rfl⟩

set_option maxRecDepth 100000 in
set_option maxHeartbeats 4000000 in
theorem orbit1_gives (d n₀ b1 b2 N : Nat) (m : Int) (A1 A2 : Option Addr) (c1 c2 : Nat) (t p : List Int) (x : Int) (w : World) (hR : RuleIs m t p)
    (hb1 : Whole w b1 3 #[.int .i64 x]) (hb2 : Whole w b2 75 #[.int .i64 m, .slice A1 t.length c1, .slice A2 p.length c2]) (hn₀ : n₀ ≤ w.heap.size) (hn1 : n₀ ≤ b1) (hb12 : b1 ≠ b2)
    (hC1 : ∀ W' : World, Below n₀ w W' → Kd.C (Kd.int .i64) W' A1 t.length t) (hC2 : ∀ W' : World, Below n₀ w W' → Kd.C (Kd.int .i64) W' A2 p.length p) :
    GivesB Fence.wide d Try.prog 83 #[.pointer (some ⟨b1, 0, none⟩), .pointer (some ⟨b2, 0, none⟩)] (fun y : Int => #[.int .i64 y]) (fun pre => pre.length < N) (fun r => r = b1) (fun _ _ => True) (KpG n₀ b1 b2) (OrbDone m t p x) (OrbPre m t p x) w := by
  intro lp J Jx W hBd hOw hW hJa hJxa hY hJ
  have HJA := Lib.hid (show ∀ s W W', J s W → W.grownBy W' none → J s W' from fun s A B h hg => hJa s A B none h hg (fun r e => by cases e))
  have HOW := Lib.hid (show ∀ s A v, J s A → J s (A.setCell ⟨b1, 0, none⟩ v) from fun s A v h => hOw s A _ b1 rfl h (setCell_grown A b1 0 v))
  have HBD := Lib.hid hBd
  have c1' := hb1.below hW hb1.lt
  have c2' := hb2.below hW hb2.lt
  have HR := Lib.hid hR
  have H1 := Lib.hid hC1
  have H2 := Lib.hid hC2
  have HY := Lib.hid hY
  have HJ := Lib.hid hJ
  have HC1 := Lib.hid c1'
  have HC2 := Lib.hid c2'
  have HW := Lib.hid hW
  clear hY hJ hJa hJxa hBd hOw hR hC1 hC2 c1' c2' hb1 hb2 hW
  refine callsIn_of_wp Try.func83 rfl trivial ?_ rfl
  simp only [Try.ntmps83, List.size_toArray, List.length_cons, List.length_nil, Nat.reduceAdd, Nat.reduceSub, Array.replicate_succ, Array.replicate_zero, List.push_toArray, List.append_toArray, List.nil_append, List.cons_append]
  gi_wp2
  refine wpIn_loop_ghost_k (fun k a V => ∃ (j : Nat) (u4 u5 u6 u7 u8 u9 u10 u11 u12 u13 : Value), a = { tmps := #[.func (.yield lp) #[] #[], .pointer (some ⟨b1, 0, none⟩), .pointer (some ⟨b2, 0, none⟩), undef, u4, u5, u6, u7, u8, u9, u10, u11, u12, u13], defers := [] } ∧ k + j = N ∧ J (orbTo m t p x j) V ∧ Hid (∀ i, i < j → smallB (iterW m t p i x) = true) ∧ Below n₀ W V ∧ Whole V b1 3 #[.int .i64 (iterW m t p j x)] ∧ Whole V b2 75 #[.int .i64 m, .slice A1 t.length c1, .slice A2 p.length c2]) N ?_ ?_
  · exact ⟨0, _, _, _, _, _, _, _, _, _, _, rfl, rfl, HJ.out, Lib.hid (by omega), Below.refl _ _, HC1.out, HC2.out⟩
  · rintro k a wr ⟨j, u4, u5, u6, u7, u8, u9, u10, u11, u12, u13, rfl, hkj, hJj, HS, hB, hG1, hG2⟩ Jn K hJn hK
    have hlen := HBD.out _ _ hJj
    rw [orbTo_length] at hlen
    obtain ⟨fn, tmps, assign, body, hy, hYR⟩ := HY.out (orbTo m t p x j) (iterW m t p j x) wr hJj trivial
    have e1 := (orbTo_succ m t p x j).symm
    rw [e1] at hYR
    have HE := Lib.hid e1
    have HJn := Lib.hid hJn
    have HK := Lib.hid hK
    have HBL := Lib.hid hB
    have G1 := Lib.hid hG1
    have G2 := Lib.hid hG2
    have hit := iterW_succ m t p j x
    have HIT := Lib.hid hit
    have g0 := hG1.cell 0
    simp only [List.getElem?_toArray, List.getElem?_cons_zero, List.getElem?_cons_succ] at g0
    generalize hgy : iterW m t p j x = y at *
    clear hJn hK hB hG1 hG2 hit e1 hJj
    gi_wp2
    refine ⟨fun h => absurd h (by decide), hYR.mono ?_⟩
    rintro e w3 (⟨rfl, hJ3, hk3⟩ | ⟨rfl, hJx3⟩)
    · have q1 := hk3.whole (.inl rfl) G1.out
      have q2 := hk3.whole (.inr rfl) G2.out
      have q3 := HBL.out.trans hk3.1
      have HJ3 := Lib.hid hJ3
      have b0 := q1.cell 0
      have d0 := q2.cell 0
      have d1 := q2.cell 1
      have d2 := q2.cell 2
      have hlt1 := q1.lt
      have hlt2 := q2.lt
      have bf := q1.frozen 0
      simp only [List.getElem?_toArray, List.getElem?_cons_zero, List.getElem?_cons_succ] at b0 d0 d1 d2
      have HA := Lib.hid (H1.out w3 ((HW.out.mono hn₀).trans q3))
      have HB := Lib.hid (H2.out w3 ((HW.out.mono hn₀).trans q3))
      have Q1 := Lib.hid q1
      have Q2 := Lib.hid q2
      have Q3 := Lib.hid q3
      clear hJ3 hk3 q1 q2 q3 g0 hYR
      cases hs : smallB y
      · gi_wp2_with (refine ⟨trivial, fun h => absurd h (by decide), (callsIn_wide.2 (small_any _ _)).mono ?_⟩; rintro e w4 ⟨rfl, rfl⟩)
        go_end0
        exact ⟨⟨_, rfl⟩, .inl ⟨_, ⟨j, rfl, HS.out, by rw [hgy]; exact hs⟩, HJ3.out⟩⟩
      · have hmid := small_mid hs
        have HN := Lib.hid (show ∀ i, i < j + 1 → smallB (iterW m t p i x) = true from fun i hi => by
          by_cases e : i = j
          · subst e; rw [hgy]; exact hs
          · exact HS.out i (by omega))
        have HM := Lib.hid hmid
        clear hmid
        gi_wp2_with (first
          | (refine ⟨trivial, fun h => absurd h (by decide), (callsIn_wide.2 (small_any _ _)).mono ?_⟩; rintro e w4 ⟨rfl, rfl⟩)
          | (refine ⟨trivial, fun h => absurd h (by decide), (callsIn_wide.2 (sent_any m A1 A2 c1 c2 t p y _ HR.out HM.out HA.out HB.out)).mono ?_⟩; rintro e w4 ⟨rfl, hb⟩; have q4 := Q1.out.below hb hlt1; have g4 := q4.cell 0; have f4 := q4.frozen 0; have l4 := q4.lt; simp only [List.getElem?_toArray, List.getElem?_cons_zero] at g4; have Q4 := Lib.hid q4; have HB4 := Lib.hid hb; clear hb q4))
        have hJ4 := HOW.out _ _ (.int .i64 (sentW m t p y)) (HJA.out _ _ _ HJ3.out (grown_of_below HB4.out none))
        have q5 := Q4.out.set 0 (.int .i64 (sentW m t p y))
        have q6 := (Q2.out.below HB4.out hlt2).far (p := ⟨b1, 0, none⟩) (Ne.symm hb12) (.int .i64 (sentW m t p y))
        exact HK.out _ _ ⟨k - 1, by omega, HJn.out _ _ _ ⟨j + 1, _, _, _, _, _, _, _, _, _, _, rfl, by omega, hJ4, HN, Below.setAt (Q3.out.trans (HB4.out.mono (by have := Q3.out.size; have := HW.out.size; omega))) (by omega) 0 _, by rw [HIT.out]; simpa using q5, q6⟩⟩
    · have HJ3 := Lib.hid hJx3
      clear hJx3
      gi_wp2
      refine ⟨trivial, ?_⟩
      gi_wp2
      go_end0
      exact ⟨⟨_, rfl⟩, .inr ⟨_, ⟨j, rfl, HS.out⟩, HJ3.out⟩⟩
end Go.Proofs.Ytkjojcepombhpaa.L

/- Orbit comes to what wheel_Orbit.f says. -/
namespace Go.Proofs.Ytkjojcepombhpaa.L
set_option linter.unusedVariables false
set_option linter.unusedSimpArgs false
open Go.RowKit Go.Shelf Go.Maps Go.Proofs.YtkjojcepombhpaaW.PrintWords Go.Proofs.YtkjojcepombhpaaW.PrintLast Go.Proofs.YtkjojcepombhpaaW.PrintMore
attribute [local go_sem] Oper.semAt_some

/-- The orbit from y on, what came before being pre; none: a large number. -/
def orbGo (m : Int) (t p : List Int) (steps : Int) : Nat → List Int → Int → Option (List Int)
  | 0, _, _ => none
  | f + 1, pre, y => if smallB y then (if pre.contains y || decide (steps < (pre.length : Int) + 1) then some (pre ++ [y]) else orbGo m t p steps f (pre ++ [y]) (sentW m t p y)) else none
def wheel_Orbit.f (m : Int) (t p : List Int) (n steps : Int) : Option (List Int × Int) :=
  some (if ruleB m t p && (smallB n && inB steps 0 500) then (match orbGo m t p steps 502 [] n with | some l => (l, 0) | none => ([], 5)) else ([], 2))

theorem orbGo_to (m : Int) (t p : List Int) (x : Int) (steps : Int) (k : Nat) (hn : (orbTo m t p x k).Nodup) (hs : ∀ i, i < k → smallB (iterW m t p i x) = true) (hk : (k : Int) ≤ steps) (f : Nat) (hf : k ≤ f) :
    orbGo m t p steps f [] x = orbGo m t p steps (f - k) (orbTo m t p x k) (iterW m t p k x) := by
  induction k with
  | zero => rfl
  | succ k ih =>
    rw [orbTo_succ] at hn
    have hn2 := List.nodup_append.1 hn
    rw [ih hn2.1 (fun i hi => hs i (by omega)) (by omega) (by omega)]
    obtain ⟨g, hg⟩ : ∃ g, f - k = g + 1 := ⟨f - k - 1, by omega⟩
    rw [hg, show f - (k + 1) = g by omega, orbGo, if_pos (hs k (by omega)), orbTo_succ, iterW_succ, if_neg]
    rw [Bool.or_eq_true, not_or]
    refine ⟨fun hc => ?_, by rw [orbTo_length]; simp; omega⟩
    exact hn2.2.2 _ (List.contains_iff_mem.1 hc) _ (by simp) rfl

/-- Four blocks that a call has laid first, in every later world. -/
theorem four_at {w w1 : World} {t0 t1 t2 t3 : TypeId} {a0 a1 a2 a3 : Array Value} (hb : Below ((((w.alloc (.cells a0 t0)).alloc (.cells a1 t1)).alloc (.cells a2 t2)).alloc (.cells a3 t3)).heap.size ((((w.alloc (.cells a0 t0)).alloc (.cells a1 t1)).alloc (.cells a2 t2)).alloc (.cells a3 t3)) w1) :
    Whole w1 w.heap.size t0 a0 ∧ Whole w1 (w.heap.size + 1) t1 a1 ∧ Whole w1 (w.heap.size + 1 + 1) t2 a2 ∧ Whole w1 (w.heap.size + 1 + 1 + 1) t3 a3 ∧ w.heap.size + 1 + 1 + 1 < w1.heap.size ∧ Below w.heap.size w w1 := by
  have e0 := (((Whole.new w t0 a0).alloc (.cells a1 t1)).alloc (.cells a2 t2)).alloc (.cells a3 t3)
  have e1 := ((Whole.new (w.alloc (.cells a0 t0)) t1 a1).alloc (.cells a2 t2)).alloc (.cells a3 t3)
  have e2 := (Whole.new ((w.alloc (.cells a0 t0)).alloc (.cells a1 t1)) t2 a2).alloc (.cells a3 t3)
  have e3 := Whole.new (((w.alloc (.cells a0 t0)).alloc (.cells a1 t1)).alloc (.cells a2 t2)) t3 a3
  simp only [World.size_alloc] at e1 e2 e3
  have hs := hb.size
  simp only [World.size_alloc] at hs
  exact ⟨e0.below hb e0.lt, e1.below hb e1.lt, e2.below hb e2.lt, e3.below hb e3.lt, by omega, below_then (below_alloc (below_alloc (below_alloc (below_alloc (Below.refl _ _) _) _) _) _) (by simp; omega) hb⟩
/-- A cell of a block, and that it may be written. -/
theorem Whole.one {w : World} {g : Nat} {t : TypeId} {v : Value} (h : Whole w g t #[v]) : w.cell? ⟨g, 0, none⟩ = some v ∧ w.frozen? ⟨g, 0, none⟩ = false ∧ g < w.heap.size := ⟨h.cell 0, h.frozen 0, h.lt⟩

theorem results_cc {fn : Func} {a b : Tmp} (h : fn.results = #[.cell a 22, .cell b 26]) (tmps : Array Value) (w : World) {p q : Addr} {v u : Value} (hp : tmps.getD a undef = .pointer (some p)) (hq : tmps.getD b undef = .pointer (some q)) (hv : w.cell? p = some v) (hu : w.cell? q = some u) :
    (results fn tmps).run Try.prog w = .ok (.tuple #[v, u]) w := by
  have hp' : tmps[a]?.getD undef = .pointer (some p) := by simpa using hp
  have hq' : tmps[b]?.getD undef = .pointer (some q) := by simpa using hq
  have u1 := Try.underlying22
  have u2 := Try.underlying26
  simp [results, h, hp', hq', go_sem, hv, hu]
set_option maxHeartbeats 2000000 in
theorem orbit_bad (m : Int) (A1 : Option Addr) (c1 : Nat) (t : List Int) (A2 : Option Addr) (c2 : Nat) (p : List Int) (n steps : Int) (w : World) (h1 : Kd.C (Kd.int .i64) w A1 t.length t) (h2 : Kd.C (Kd.int .i64) w A2 p.length p) (hb : (ruleB m t p && (smallB n && inB steps 0 500)) = false) :
    Calls Try.prog 24 #[.agg #[.int .i64 m, .slice A1 t.length c1, .slice A2 p.length c2], .int .i64 n, .int .i64 steps] w fun e w' => e = .returned (.tuple #[.slice none 0 0, .int .i64 2]) ∧ Below w.heap.size w w' := by
  have B0 : Below w.heap.size w ((((w.alloc (rbox24 m (.slice A1 t.length c1) (.slice A2 p.length c2))).alloc (.cells #[.int .i64 steps] 3)).alloc (.cells #[.slice none 0 0] 22)).alloc (.cells #[.int .i64 0] 26)) := below_alloc (below_alloc (below_alloc (below_alloc (Below.refl _ _) _) _) _) _
  have HA := Lib.hid h1
  have HB := Lib.hid h2
  clear h1 h2
  have HN := Lib.hid (newRule_any m A1 A2 c1 c2 t p _ (Kd.C_below HA.out B0) (Kd.C_below HB.out B0))
  clear B0
  cases hq : ruleB m t p
  · rw [hq] at HN
    clear hb hq
    go_enter Try.func24, Try.ntmps24
    go_wp2_with (go_at_call 58; refine HN.out.mono ?_; rintro e w1 ⟨rfl, hb⟩; obtain ⟨_, f1, f2, f3, hlt, hbw⟩ := four_at hb; obtain ⟨x1, _, _⟩ := f1.one; obtain ⟨x2, y2, _⟩ := f2.one; obtain ⟨x3, y3, _⟩ := f3.one; have F2 := Lib.hid f2; have F3 := Lib.hid f3; have HBW := Lib.hid hbw; clear hb f1 f2 f3 hbw)
    have k2 := (((F2.out.set 0 (.slice none 0 0)).far (p := ⟨w.heap.size + 1 + 1 + 1, 0, none⟩) (by simp) (.int .i64 2)).alloc (rbox m (.slice A1 t.length c1) (.slice A2 p.length c2))).cell 0; have k3 := (((F3.out.far (p := ⟨w.heap.size + 1 + 1, 0, none⟩) (by simp) (.slice none 0 0)).set 0 (.int .i64 2)).alloc (rbox m (.slice A1 t.length c1) (.slice A2 p.length c2))).cell 0; exact bodyPost_ret (results_cc rfl _ _ rfl rfl k2 k3) rfl ⟨rfl, below_alloc (Below.setAt (Below.setAt HBW.out (by omega) 0 _) (by omega) 0 _) _⟩
  · rw [hq] at HN hb
    clear hq
    cases hs : smallB n
    · clear hb
      go_enter Try.func24, Try.ntmps24
      go_wp2_with (first
        | (go_at_call 58; refine HN.out.mono ?_; rintro e w1 ⟨rfl, hb⟩; obtain ⟨_, f1, f2, f3, hlt, hbw⟩ := four_at hb; obtain ⟨x1, _, _⟩ := f1.one; obtain ⟨x2, y2, _⟩ := f2.one; obtain ⟨x3, y3, _⟩ := f3.one; have F2 := Lib.hid f2; have F3 := Lib.hid f3; have HBW := Lib.hid hbw; clear hb f1 f2 f3 hbw)
        | (go_at_call 59; refine (small_any _ _).mono ?_; rintro e w2 ⟨rfl, rfl⟩))
      have k2 := (((F2.out.set 0 (.slice none 0 0)).far (p := ⟨w.heap.size + 1 + 1 + 1, 0, none⟩) (by simp) (.int .i64 2)).alloc (rbox m (.slice A1 t.length c1) (.slice A2 p.length c2))).cell 0; have k3 := (((F3.out.far (p := ⟨w.heap.size + 1 + 1, 0, none⟩) (by simp) (.slice none 0 0)).set 0 (.int .i64 2)).alloc (rbox m (.slice A1 t.length c1) (.slice A2 p.length c2))).cell 0; exact bodyPost_ret (results_cc rfl _ _ rfl rfl k2 k3) rfl ⟨rfl, below_alloc (Below.setAt (Below.setAt HBW.out (by omega) 0 _) (by omega) 0 _) _⟩
    · have hi : inB steps 0 500 = false := by rw [hs] at hb; simpa using hb
      clear hb
      go_enter Try.func24, Try.ntmps24
      go_wp2_with (first
        | (go_at_call 58; refine HN.out.mono ?_; rintro e w1 ⟨rfl, hb⟩; obtain ⟨_, f1, f2, f3, hlt, hbw⟩ := four_at hb; obtain ⟨x1, _, _⟩ := f1.one; obtain ⟨x2, y2, _⟩ := f2.one; obtain ⟨x3, y3, _⟩ := f3.one; have F2 := Lib.hid f2; have F3 := Lib.hid f3; have HBW := Lib.hid hbw; clear hb f1 f2 f3 hbw)
        | (go_at_call 59; refine (small_any _ _).mono ?_; rintro e w2 ⟨rfl, rfl⟩)
        | (go_at_call 60; refine (within_any _ _ _ _).mono ?_; rintro e w2 ⟨rfl, rfl⟩))
      have k2 := (((F2.out.set 0 (.slice none 0 0)).far (p := ⟨w.heap.size + 1 + 1 + 1, 0, none⟩) (by simp) (.int .i64 2)).alloc (rbox m (.slice A1 t.length c1) (.slice A2 p.length c2))).cell 0; have k3 := (((F3.out.far (p := ⟨w.heap.size + 1 + 1, 0, none⟩) (by simp) (.slice none 0 0)).set 0 (.int .i64 2)).alloc (rbox m (.slice A1 t.length c1) (.slice A2 p.length c2))).cell 0; exact bodyPost_ret (results_cc rfl _ _ rfl rfl k2 k3) rfl ⟨rfl, below_alloc (Below.setAt (Below.setAt HBW.out (by omega) 0 _) (by omega) 0 _) _⟩

theorem whole_own {β : Type} (B : Nat) (t : TypeId) (f : β → Array Value) : Own (fun s W => Whole W B t (f s)) := fun s X Y row hs hg hrow =>
  hs.grown hg (fun e' => by obtain ⟨o, ho, hc⟩ := hrow B e'.symm; rw [show X.heap[B]? = _ from hs] at ho; cases ho; cases hc)
/-- A row of numbers that the call makes itself, from B on. -/
def RowIs (W : World) (B : Nat) (v : Value) (xs : List Int) : Prop := W.ownsRow B 3 1 v xs.length (encs (Value.int .i64) xs)
theorem RowIs.nil (W : World) (B : Nat) : RowIs W B (.slice none 0 0) [] := ⟨rfl, .inl ⟨rfl, rfl⟩⟩
theorem RowIs.kept {W W' : World} {B : Nat} {v : Value} {xs : List Int} {row : Option Nat} (h : RowIs W B v xs) (hg : W.grownBy W' row) (hne : v.ownBlock = none ∨ v.ownBlock ≠ row) : RowIs W' B v xs := World.ownsRow.kept h hg hne
theorem RowIs.block {W : World} {B : Nat} {v : Value} {xs : List Int} (h : RowIs W B v xs) {k : Nat} (hk : v.ownBlock = some k) : B ≤ k ∧ k < W.heap.size ∧ ∃ o : Obj, W.heap[k]? = some o ∧ o.isCells = true := by
  obtain ⟨_, h | ⟨g, cap, cur, rfl, hb, hc, _⟩⟩ := h
  · rw [h.1] at hk; cases hk
  · cases hk
    exact ⟨hb, (Array.getElem?_eq_some_iff.1 hc).1, _, hc, rfl⟩
theorem RowIs.own {W W' : World} {B : Nat} {v : Value} {xs : List Int} {row : Option Nat} (h : RowIs W B v xs) (hg : W.grownBy W' row) (hr : ∀ r, row = some r → ∃ o : Obj, W.heap[r]? = some o ∧ o.isCells = false) : RowIs W' B v xs := by
  refine h.kept hg ?_
  cases hk : v.ownBlock with
  | none => exact .inl rfl
  | some k =>
    refine .inr (fun e => ?_)
    obtain ⟨_, _, o, ho, hc⟩ := h.block hk
    obtain ⟨o', ho', hc'⟩ := hr k e.symm
    rw [ho] at ho'
    cases ho'
    rw [hc] at hc'
    cases hc'
theorem RowIs.R {W : World} {B base : Nat} {v : Value} {xs : List Int} (h : RowIs W B v xs) (hb : base ≤ B) : Kd.R (Kd.int .i64) 3 W base (fun _ => True) v xs :=
  Kd.R_of_own (own_weaken h hb) (fun _ _ => trivial)
theorem SetIs.own {W W' : World} {b : Nat} {xs : List Int} {row : Option Nat} (h : SetIs W b xs) (hg : W.grownBy W' row) (hne : some b ≠ row) : SetIs W' b xs := h.kept hg hne

/-- One number more behind a row. -/
theorem appendI {F : Fence} {n : Nat} (w : World) {ops : Array Oper} {rest : List Oper} {o : Oper} {a : Act} {Q : Exit → Act → World → Prop}
    (hg : o.guard = none) (s x : Operand) (hop : o.op = Op.call { callee := Callee.builtin Builtin.append, args := #[s, x], argTypes := #[22, 22] })
    (B : Nat) (v : Value) (xs : List Int) (hs : a.eval s = v) (hown : RowIs w B v xs) (g : Nat) (y : Int) (hx : a.eval x = .slice (some ⟨g, 0, none⟩) 1 1) (hc : w.cell? ⟨g, 0, none⟩ = some (.int .i64 y)) (hl : xs.length < 100000) (hB : B ≤ w.heap.size)
    (hK : ∀ v' w', RowIs w' B v' (xs ++ [y]) → w.grownBy w' v.ownBlock → (v'.ownBlock = v.ownBlock ∨ v'.ownBlock = some w.heap.size) → wpListIn F n Try.prog ops Q rest (a.put o.dst v') w') :
    wpListIn F n Try.prog ops Q (o :: rest) a w := by
  obtain ⟨i3, hi3, hz3, hs3, hb3⟩ := info_parts info3
  refine wpListIn_append_own_at w hg s x 22 hop B 3 i3 _ 1 8 Try.underlying22 hi3 hz3 hs3 hb3 rfl (by decide) v xs.length (encs (Value.int .i64) xs) hs hown ⟨g, 0, none⟩ 1 1 [.int .i64 y] hx rfl ?_ (by simp [Value.oneCell']) (by unfold maxLen; omega) (by omega) hB ?_
  · intro j u hu
    cases j with
    | zero => simp at hu; subst hu; simpa [Addr.add] using hc
    | succ j => simp at hu
  · intro v' w' h1 h2 _ h4
    refine hK v' w' ?_ h2 h4
    unfold RowIs
    rw [List.length_append]
    have e : encs (Value.int .i64) (xs ++ [y]) = encs (Value.int .i64) xs ++ [Value.int .i64 y] := by simp [encs]
    rw [e]
    exact h1

theorem RowIs.alloc {W : World} {B : Nat} {v : Value} {xs : List Int} (h : RowIs W B v xs) (o : Obj) : RowIs (W.alloc o) B v xs := h.own (World.grownBy_alloc W o none) (fun r e => by cases e)
theorem RowIs.ne {W : World} {B : Nat} {v : Value} {xs : List Int} (h : RowIs W B v xs) {k : Nat} (hk : k < B) : some k ≠ v.ownBlock := fun e => by have := (h.block e.symm).1; omega
theorem RowIs.far {W W' : World} {B : Nat} {v : Value} {xs : List Int} {k : Nat} (h : RowIs W B v xs) (hg : W.grownBy W' (some k)) (hk : k < B) : RowIs W' B v xs := by
  refine h.kept hg ?_
  cases e : v.ownBlock with
  | none => exact .inl rfl
  | some q => exact .inr (fun e2 => by have := (h.block e).1; cases e2; omega)
theorem RowIs.form {W : World} {B : Nat} {v : Value} {xs : List Int} (h : RowIs W B v xs) (hne : xs ≠ []) : ∃ g cap, v = .slice (some ⟨g, 0, none⟩) xs.length cap := by
  obtain ⟨_, h | ⟨g, cap, cur, rfl, _⟩⟩ := h
  · have := h.2
    cases xs with
    | nil => exact absurd rfl hne
    | cons => simp at this
  · exact ⟨g, cap, rfl⟩

/-- What holds within a round: the first blocks, the rows that are made, and nothing below them has turned. -/
def OrbV (w : World) (R : Nat) (steps : Int) (rv1 rv2 v0 v : Value) (xs st : List Int) (W : World) : Prop :=
  (Whole W (w.heap.size + 1) 3 #[.int .i64 steps] ∧ Whole W (w.heap.size + 1 + 1) 22 #[rv1] ∧ Whole W (w.heap.size + 1 + 1 + 1) 26 #[rv2] ∧ Whole W (R + 1) 22 #[v0] ∧ Whole W (R + 1 + 1 + 1) 79 #[.map (some (R + 1 + 1))]) ∧
  RowIs W (R + 1 + 1 + 1 + 1 + 1 + 1) v xs ∧ SetIs W (R + 1 + 1) st ∧ Below w.heap.size w W ∧ R + 1 + 1 + 1 + 1 + 1 + 1 ≤ W.heap.size ∧ w.heap.size + 1 + 1 + 1 < R
section
variable {w : World} {R : Nat} {steps : Int} {rv1 rv2 v0 v : Value} {xs st : List Int} {X Y : World} {row : Option Nat} {B : Nat}
theorem OrbV.own (h : OrbV w R steps rv1 rv2 v0 v xs st X) (hg : X.grownBy Y row) (hB : R + 1 + 1 + 1 + 1 + 1 + 1 ≤ B) (hr : ∀ r, row = some r → B ≤ r ∧ ∃ o : Obj, X.heap[r]? = some o ∧ o.isCells = false) : OrbV w R steps rv1 rv2 v0 v xs st Y := by
  obtain ⟨⟨h1, h2, h3, h4, h6⟩, h5, h7, h8, h9, hA⟩ := h
  have hr2 := fun r e => (hr r e).2
  exact ⟨⟨whole_own (β := Unit) _ _ (fun _ => _) () X Y row h1 hg hr2, whole_own (β := Unit) _ _ (fun _ => _) () X Y row h2 hg hr2, whole_own (β := Unit) _ _ (fun _ => _) () X Y row h3 hg hr2,
    whole_own (β := Unit) _ _ (fun _ => _) () X Y row h4 hg hr2, whole_own (β := Unit) _ _ (fun _ => _) () X Y row h6 hg hr2⟩, h5.own hg hr2, h7.kept hg (fun e => by have := (hr _ e.symm).1; omega),
    ownFrom_below (β := Unit) (Nat.le_refl _) (by omega) () X Y row h8 hg hr, Nat.le_trans h9 hg.size, hA⟩
/-- The iterator's own writes. -/
theorem OrbV.other {q : Nat} (h : OrbV w R steps rv1 rv2 v0 v xs st X) (hg : X.grownBy Y (some q)) (hq : q = R + 1 + 1 + 1 + 1 + 1) : OrbV w R steps rv1 rv2 v0 v xs st Y := by
  obtain ⟨⟨h1, h2, h3, h4, h6⟩, h5, h7, h8, h9, hA⟩ := h
  subst hq
  exact ⟨⟨h1.grown hg (fun e => by injection e with e; omega), h2.grown hg (fun e => by injection e with e; omega), h3.grown hg (fun e => by injection e with e; omega), h4.grown hg (fun e => by injection e with e; omega), h6.grown hg (fun e => by injection e with e; omega)⟩, h5.far hg (by omega), h7.kept hg (fun e => by injection e with e; omega), h8.grown hg h8.size (fun k e => by injection e with e; omega), Nat.le_trans h9 hg.size, hA⟩
/-- One number more behind the row. -/
theorem OrbV.append {o : Obj} {v' : Value} {ys : List Int} (h : OrbV w R steps rv1 rv2 v0 v xs st X) (hg : (X.alloc o).grownBy Y v.ownBlock) (hrow : RowIs Y (R + 1 + 1 + 1 + 1 + 1 + 1) v' ys) : OrbV w R steps rv1 rv2 v0 v' ys st Y := by
  obtain ⟨⟨h1, h2, h3, h4, h6⟩, h5, h7, h8, h9, hA⟩ := h
  refine ⟨⟨(h1.alloc o).grown hg (h5.ne (by omega)), (h2.alloc o).grown hg (h5.ne (by omega)), (h3.alloc o).grown hg (h5.ne (by omega)), (h4.alloc o).grown hg (h5.ne (by omega)), (h6.alloc o).grown hg (h5.ne (by omega))⟩, hrow, (h7.kept (World.grownBy_alloc X o none) (fun e => by cases e)).kept hg (h5.ne (by omega)), (below_alloc h8 o).grown hg (below_alloc h8 o).size (fun k e => by have := (h5.block e).1; omega), ?_, hA⟩
  have := hg.size
  simp at this
  omega
/-- The row into its box. -/
theorem OrbV.store (h : OrbV w R steps rv1 rv2 v0 v xs st X) : OrbV w R steps rv1 rv2 v v xs st (X.setCell ⟨R + 1, 0, none⟩ v) := by
  obtain ⟨⟨h1, h2, h3, h4, h6⟩, h5, h7, h8, h9, hA⟩ := h
  have hg := setCell_grown X (R + 1) 0 v
  exact ⟨⟨h1.grown hg (fun e => by injection e with e; omega), h2.grown hg (fun e => by injection e with e; omega), h3.grown hg (fun e => by injection e with e; omega), by have := h4.set 0 v; simpa using this, h6.grown hg (fun e => by injection e with e; omega)⟩, h5.far hg (by omega), h7.kept hg (fun e => by injection e with e; omega), h8.grown hg h8.size (fun k e => by injection e with e; omega), Nat.le_trans h9 hg.size, hA⟩
/-- A store in the map. -/
theorem OrbV.mapped {st' : List Int} (h : OrbV w R steps rv1 rv2 v0 v xs st X) (hg : X.grownBy Y (some (R + 1 + 1))) (hs : SetIs Y (R + 1 + 1) st') : OrbV w R steps rv1 rv2 v0 v xs st' Y := by
  obtain ⟨⟨h1, h2, h3, h4, h6⟩, h5, h7, h8, h9, hA⟩ := h
  exact ⟨⟨h1.grown hg (fun e => by injection e with e; omega), h2.grown hg (fun e => by injection e with e; omega), h3.grown hg (fun e => by injection e with e; omega), h4.grown hg (fun e => by injection e with e; omega), h6.grown hg (fun e => by injection e with e; omega)⟩, h5.far hg (by omega), hs, h8.grown hg h8.size (fun k e => by injection e with e; omega), Nat.le_trans h9 hg.size, hA⟩
/-- The results. -/
theorem OrbV.done {u1 u2 : Value} (h : OrbV w R steps rv1 rv2 v0 v xs st X) : OrbV w R steps u1 u2 v0 v xs st ((X.setCell ⟨w.heap.size + 1 + 1, 0, none⟩ u1).setCell ⟨w.heap.size + 1 + 1 + 1, 0, none⟩ u2) := by
  obtain ⟨⟨h1, h2, h3, h4, h6⟩, h5, h7, h8, h9, hA⟩ := h
  have hg := setCell_grown X (w.heap.size + 1 + 1) 0 u1
  have hg2 := setCell_grown (X.setCell ⟨w.heap.size + 1 + 1, 0, none⟩ u1) (w.heap.size + 1 + 1 + 1) 0 u2
  exact ⟨⟨(h1.grown hg (fun e => by injection e with e; omega)).grown hg2 (fun e => by injection e with e; omega), by have := h2.set 0 u1; exact (show Whole _ _ 22 #[u1] by simpa using this).grown hg2 (fun e => by injection e with e; omega), by have := (h3.grown hg (fun e => by injection e with e; omega)).set 0 u2; simpa using this, (h4.grown hg (fun e => by injection e with e; omega)).grown hg2 (fun e => by injection e with e; omega), (h6.grown hg (fun e => by injection e with e; omega)).grown hg2 (fun e => by injection e with e; omega)⟩, (h5.far hg (by omega)).far hg2 (by omega), (h7.kept hg (fun e => by injection e with e; omega)).kept hg2 (fun e => by injection e with e; omega), Below.setAt (Below.setAt h8 (by omega) 0 _) (by omega) 0 _, Nat.le_trans h9 (Nat.le_trans hg.size hg2.size), hA⟩
/-- What a walk reads. -/
theorem OrbV.facts (h : OrbV w R steps rv1 rv2 v0 v xs st X) :
    X.cell? ⟨w.heap.size + 1, 0, none⟩ = some (.int .i64 steps) ∧ (X.cell? ⟨w.heap.size + 1 + 1, 0, none⟩ = some rv1 ∧ X.frozen? ⟨w.heap.size + 1 + 1, 0, none⟩ = false) ∧ (X.cell? ⟨w.heap.size + 1 + 1 + 1, 0, none⟩ = some rv2 ∧ X.frozen? ⟨w.heap.size + 1 + 1 + 1, 0, none⟩ = false) ∧
    (X.cell? ⟨R + 1, 0, none⟩ = some v0 ∧ X.frozen? ⟨R + 1, 0, none⟩ = false) ∧ X.cell? ⟨R + 1 + 1 + 1, 0, none⟩ = some (.map (some (R + 1 + 1))) ∧ R + 1 + 1 + 1 + 1 + 1 + 1 ≤ X.heap.size ∧ w.heap.size + 1 + 1 + 1 < R := by
  obtain ⟨⟨h1, h2, h3, h4, h6⟩, h5, h7, h8, h9, hA⟩ := h
  exact ⟨h1.one.1, ⟨h2.one.1, h2.one.2.1⟩, ⟨h3.one.1, h3.one.2.1⟩, ⟨h4.one.1, h4.one.2.1⟩, h6.one.1, h9, hA⟩
end
/-- What a round changes. -/
structure Chg (R : Nat) (W W3 : World) : Prop where
  os : W3.os = W.os
  tape : W3.tape = W.tape
  output : W3.output = W.output
  size : W.heap.size ≤ W3.heap.size
  same : ∀ k o, W.heap[k]? = some o → k ≠ R + 1 → k ≠ R + 1 + 1 → (k < R + 1 + 1 + 1 + 1 + 1 + 1 ∨ o.isCells = false) → W3.heap[k]? = some o
theorem Chg.refl (R : Nat) (W : World) : Chg R W W := ⟨rfl, rfl, rfl, Nat.le_refl _, fun _ _ h _ _ _ => h⟩
theorem Chg.grow {R : Nat} {W X Y : World} (h : Chg R W X) {row : Option Nat} (hg : X.grownBy Y row) (hr : ∀ r, row = some r → r = R + 1 ∨ r = R + 1 + 1 ∨ (∃ o : Obj, X.heap[r]? = some o ∧ o.isCells = true) ∧ R + 1 + 1 + 1 + 1 + 1 + 1 ≤ r) : Chg R W Y :=
  ⟨hg.os.trans h.os, hg.tape.trans h.tape, hg.output.trans h.output, Nat.le_trans h.size hg.size, fun k o ho h1 h2 h3 => by
    have hx := h.same k o ho h1 h2 h3
    refine (hg.block k (Array.getElem?_eq_some_iff.1 hx).1 (fun e => ?_)).trans hx
    rcases hr k e.symm with e2 | e2 | ⟨⟨o', ho', hc⟩, hle⟩
    · exact h1 e2
    · exact h2 e2
    · rw [hx] at ho'
      cases ho'
      rcases h3 with h3 | h3
      · omega
      · rw [hc] at h3; cases h3⟩
theorem Chg.keeps {R B : Nat} {W W3 : World} (h : Chg R W W3) (hB : R + 1 + 1 + 1 + 1 + 1 + 1 ≤ B) : KeepsFrom B W W3 := ⟨h.size, fun k o hk ho hc => h.same k o ho (by omega) (by omega) (.inr hc)⟩
theorem Chg.kp {R n₀ b1 b2 : Nat} {W W3 : World} (h : Chg R W W3) (hn : n₀ ≤ R) (h1 : b1 = R + 1 + 1 + 1 + 1 + 1) (h2 : b2 = R + 1 + 1 + 1 + 1) (hs : R + 1 + 1 + 1 + 1 + 1 + 1 ≤ W.heap.size) : KpG n₀ b1 b2 W W3 := by
  refine ⟨⟨h.os, h.tape, h.output, h.size, fun k hk => ?_⟩, fun k hk o ho _ => h.same k o ho (by omega) (by omega) (.inl (by omega))⟩
  have hlt : k < W.heap.size := by omega
  rw [Array.getElem?_eq_getElem hlt]
  exact h.same k _ (Array.getElem?_eq_getElem hlt) (by omega) (by omega) (.inl (by omega))
theorem RowIs.chg {W : World} {R : Nat} {v : Value} {xs : List Int} (h : RowIs W (R + 1 + 1 + 1 + 1 + 1 + 1) v xs) : ∀ r, v.ownBlock = some r → r = R + 1 ∨ r = R + 1 + 1 ∨ (∃ o : Obj, W.heap[r]? = some o ∧ o.isCells = true) ∧ R + 1 + 1 + 1 + 1 + 1 + 1 ≤ r := fun r e => .inr (.inr ⟨(h.block e).2.2, (h.block e).1⟩)

theorem OrbV.step {w : World} {R : Nat} {steps : Int} {rv1 rv2 v v' : Value} {pre st : List Int} {y : Int} {W w2 : World} (hV : OrbV w R steps rv1 rv2 v v pre st W) (hrow : RowIs w2 (R + 1 + 1 + 1 + 1 + 1 + 1) v' (pre ++ [y])) (hgrow : (W.alloc (.cells #[.int .i64 y] 3)).grownBy w2 v.ownBlock) (hwf : (Lit.int .i64 y).wf = true) :
    ∃ g cap, v' = .slice (some ⟨g, 0, none⟩) (pre.length + 1) cap ∧ (w2.cell? ⟨w.heap.size + 1, 0, none⟩ = some (.int .i64 steps) ∧ w2.cell? ⟨R + 1, 0, none⟩ = some v ∧ w2.frozen? ⟨R + 1, 0, none⟩ = false ∧ w2.cell? ⟨R + 1 + 1 + 1, 0, none⟩ = some (.map (some (R + 1 + 1))) ∧ R + 1 + 1 + 1 < w2.heap.size ∧ w.heap.size + 1 < w2.heap.size) ∧
      OrbV w R steps rv1 rv2 v' v' (pre ++ [y]) st (w2.setCell ⟨R + 1, 0, none⟩ v') ∧ Chg R W (w2.setCell ⟨R + 1, 0, none⟩ v') ∧ (Instr.lookup 79 (.map (some (R + 1 + 1))) (.int .i64 y) false).run Try.prog (w2.setCell ⟨R + 1, 0, none⟩ v') = .ok (.bool (st.contains y)) (w2.setCell ⟨R + 1, 0, none⟩ v') := by
  obtain ⟨g, cap, hv⟩ := hrow.form (by simp)
  have hV2 := hV.append hgrow hrow
  obtain ⟨x1, _, _, ⟨x4, y4⟩, x6, z6, z7⟩ := hV2.facts
  refine ⟨g, cap, by rw [hv]; simp, ⟨x1, x4, y4, x6, by omega, by omega⟩, hV2.store, ?_, hV2.store.2.2.1.look y hwf⟩
  exact (((Chg.refl R W).grow (World.grownBy_alloc W (.cells #[.int .i64 y] 3) none) (fun r e => by cases e)).grow hgrow (hV.2.1.alloc _).chg).grow (setCell_grown w2 (R + 1) 0 _) (fun r e => by injection e with e; exact .inl e.symm)

set_option maxRecDepth 100000 in
set_option maxHeartbeats 4000000 in
theorem orbit_ok (m : Int) (A1 : Option Addr) (c1 : Nat) (t : List Int) (A2 : Option Addr) (c2 : Nat) (p : List Int) (n steps : Int) (w : World) (h1 : Kd.C (Kd.int .i64) w A1 t.length t) (h2 : Kd.C (Kd.int .i64) w A2 p.length p) (hR : ruleB m t p = true) (hn : smallB n = true) (hsteps : inB steps 0 500 = true) (res : Option (List Int)) (hres : orbGo m t p steps 502 [] n = res) (cd : Int) (hcd : (if res.isSome then 0 else 5) = cd) :
    Calls Try.prog 24 #[.agg #[.int .i64 m, .slice A1 t.length c1, .slice A2 p.length c2], .int .i64 n, .int .i64 steps] w fun e w' => ∃ v0_ : Value, e = .returned (.tuple #[v0_, .int .i64 cd]) ∧ Kd.R (Kd.int .i64) 3 w' w.heap.size (fun _ => True) v0_ (res.getD []) ∧ Below w.heap.size w w' := by
  have HRES := Lib.hid hres
  have HCD := Lib.hid hcd
  clear hres hcd
  have hmm := @run_makeMap Try.prog
  have hst : 0 ≤ steps ∧ steps ≤ 500 := by simpa [inB] using hsteps
  have HA := Lib.hid h1
  have HB := Lib.hid h2
  have HRU := Lib.hid (ruleB_is hR)
  have B0 : Below w.heap.size w ((((w.alloc (rbox24 m (.slice A1 t.length c1) (.slice A2 p.length c2))).alloc (.cells #[.int .i64 steps] 3)).alloc (.cells #[.slice none 0 0] 22)).alloc (.cells #[.int .i64 0] 26)) := below_alloc (below_alloc (below_alloc (below_alloc (Below.refl _ _) _) _) _) _
  have HN := Lib.hid (newRule_any m A1 A2 c1 c2 t p _ (Kd.C_below h1 B0) (Kd.C_below h2 B0))
  rw [hR] at HN
  clear h1 h2 hR B0
  refine (callsIn_wide (n := 6)).1 ?_
  refine callsIn_of_wp_marks Try.func24 rfl trivial ?_ rfl
  simp only [Try.ntmps24, List.size_toArray, List.length_cons, List.length_nil, Nat.reduceAdd, Nat.reduceSub, Array.replicate_succ, Array.replicate_zero, List.push_toArray, List.append_toArray, List.nil_append, List.cons_append]
  gi_wp2_with (first
    | (refine ⟨trivial, ?_⟩; gi_at_call 58; refine (callsIn_wide.2 HN.out).mono ?_; rintro e w1 ⟨rfl, hb⟩; obtain ⟨_, f1, f2, f3, hlt, hbw⟩ := four_at hb; obtain ⟨x1, _, _⟩ := f1.one; have F1 := Lib.hid f1; have F2 := Lib.hid f2; have F3 := Lib.hid f3; have HBW := Lib.hid hbw; clear hb f1 f2 f3 hbw)
    | (refine ⟨trivial, ?_⟩; gi_at_call 59; refine (callsIn_wide.2 (small_any _ _)).mono ?_; rintro e w2 ⟨rfl, rfl⟩)
    | (refine ⟨trivial, ?_⟩; gi_at_call 60; refine (callsIn_wide.2 (within_any _ _ _ _)).mono ?_; rintro e w2 ⟨rfl, rfl⟩)
    | (refine ⟨trivial, ?_⟩; gi_at_call 61; refine (callsIn_wide.2 (orbit_any m (.slice A1 t.length c1) (.slice A2 p.length c2) n _ rfl rfl)).mono ?_; rintro e w2 ⟨rfl, rfl⟩))
  obtain ⟨W0, hW0⟩ : ∃ W0, ((((((w1.alloc (.cells #[.int .i64 m, .slice A1 t.length c1, .slice A2 p.length c2] 75)).alloc (.cells #[.slice none 0 0] 22)).alloc (.map #[] 0)).alloc (.cells #[.map (some (w1.heap.size + 1 + 1))] 79)).alloc (rbox m (.slice A1 t.length c1) (.slice A2 p.length c2))).alloc (.cells #[.int .i64 n] 3)) = W0 := ⟨_, rfl⟩
  have g1 := (((((F1.out.alloc (.cells #[.int .i64 m, .slice A1 t.length c1, .slice A2 p.length c2] 75)).alloc (.cells #[.slice none 0 0] 22)).alloc (.map #[] 0)).alloc (.cells #[.map (some (w1.heap.size + 1 + 1))] 79)).alloc (rbox m (.slice A1 t.length c1) (.slice A2 p.length c2))).alloc (.cells #[.int .i64 n] 3)
  have g2 := (((((F2.out.alloc (.cells #[.int .i64 m, .slice A1 t.length c1, .slice A2 p.length c2] 75)).alloc (.cells #[.slice none 0 0] 22)).alloc (.map #[] 0)).alloc (.cells #[.map (some (w1.heap.size + 1 + 1))] 79)).alloc (rbox m (.slice A1 t.length c1) (.slice A2 p.length c2))).alloc (.cells #[.int .i64 n] 3)
  have g3 := (((((F3.out.alloc (.cells #[.int .i64 m, .slice A1 t.length c1, .slice A2 p.length c2] 75)).alloc (.cells #[.slice none 0 0] 22)).alloc (.map #[] 0)).alloc (.cells #[.map (some (w1.heap.size + 1 + 1))] 79)).alloc (rbox m (.slice A1 t.length c1) (.slice A2 p.length c2))).alloc (.cells #[.int .i64 n] 3)
  have g4 := ((((Whole.new (w1.alloc (.cells #[.int .i64 m, .slice A1 t.length c1, .slice A2 p.length c2] 75)) 22 #[.slice none 0 0]).alloc (.map #[] 0)).alloc (.cells #[.map (some (w1.heap.size + 1 + 1))] 79)).alloc (rbox m (.slice A1 t.length c1) (.slice A2 p.length c2))).alloc (.cells #[.int .i64 n] 3)
  have g5 := (((SetIs.new ((w1.alloc (.cells #[.int .i64 m, .slice A1 t.length c1, .slice A2 p.length c2] 75)).alloc (.cells #[.slice none 0 0] 22))).kept (World.grownBy_alloc _ (.cells #[.map (some (w1.heap.size + 1 + 1))] 79) none) (by simp)).kept (World.grownBy_alloc _ (rbox m (.slice A1 t.length c1) (.slice A2 p.length c2)) none) (by simp)).kept (World.grownBy_alloc _ (.cells #[.int .i64 n] 3) none) (by simp)
  have g6 := ((Whole.new (((w1.alloc (.cells #[.int .i64 m, .slice A1 t.length c1, .slice A2 p.length c2] 75)).alloc (.cells #[.slice none 0 0] 22)).alloc (.map #[] 0)) 79 #[.map (some (w1.heap.size + 1 + 1))]).alloc (rbox m (.slice A1 t.length c1) (.slice A2 p.length c2))).alloc (.cells #[.int .i64 n] 3)
  have g7 := (Whole.new ((((w1.alloc (.cells #[.int .i64 m, .slice A1 t.length c1, .slice A2 p.length c2] 75)).alloc (.cells #[.slice none 0 0] 22)).alloc (.map #[] 0)).alloc (.cells #[.map (some (w1.heap.size + 1 + 1))] 79)) 75 #[.int .i64 m, .slice A1 t.length c1, .slice A2 p.length c2]).alloc (.cells #[.int .i64 n] 3)
  have g8 := Whole.new (((((w1.alloc (.cells #[.int .i64 m, .slice A1 t.length c1, .slice A2 p.length c2] 75)).alloc (.cells #[.slice none 0 0] 22)).alloc (.map #[] 0)).alloc (.cells #[.map (some (w1.heap.size + 1 + 1))] 79)).alloc (rbox m (.slice A1 t.length c1) (.slice A2 p.length c2))) 3 #[.int .i64 n]
  have g9 := below_alloc (below_alloc (below_alloc (below_alloc (below_alloc (below_alloc HBW.out (.cells #[.int .i64 m, .slice A1 t.length c1, .slice A2 p.length c2] 75)) (.cells #[.slice none 0 0] 22)) (.map #[] 0)) (.cells #[.map (some (w1.heap.size + 1 + 1))] 79)) (rbox m (.slice A1 t.length c1) (.slice A2 p.length c2))) (.cells #[.int .i64 n] 3)
  simp only [World.size_alloc] at g4 g5 g6 g7 g8
  rw [hW0] at g1 g2 g3 g4 g5 g6 g7 g8 g9 ⊢
  have hsz : w1.heap.size + 1 + 1 + 1 + 1 + 1 + 1 = W0.heap.size := by rw [← hW0]; simp only [World.size_alloc]
  clear hW0
  generalize w1.heap.size = R at *
  have hO : OrbV w R steps (.slice none 0 0) (.int .i64 0) (.slice none 0 0) (.slice none 0 0) [] [] W0 := ⟨⟨g1, g2, g3, g4, g6⟩, RowIs.nil _ _, g5, g9, by omega, by omega⟩
  have HG9 := Lib.hid g9
  have hseq := orbit1_gives 5 w.heap.size (R + 1 + 1 + 1 + 1 + 1) (R + 1 + 1 + 1 + 1) (steps.toNat + 1) m A1 A2 c1 c2 t p n W0 HRU.out g8 g7 g9.size (by omega) (by omega) (fun W' hb => Kd.C_below HA.out (HG9.out.trans hb)) (fun W' hb => Kd.C_below HB.out (HG9.out.trans hb))
  clear g1 g2 g3 g4 g5 g6 g7 g8
  refine wpIn_rangeB rfl (by omega) (gf := 83) (lb := #[.pointer (some ⟨R + 1 + 1 + 1 + 1 + 1, 0, none⟩), .pointer (some ⟨R + 1 + 1 + 1 + 1, 0, none⟩)]) rfl trivial (enters_of Try.func83 (by kernel_rfl) rfl) hseq (fun h k => KpG_t h k) (KpG_b (by have := g9.size; omega)) (Below.refl _ _) (fun _ => rfl) (fun _ => fun _ _ _ _ h _ _ => h)
    (fun pre W => (pre.Nodup ∧ (∀ z ∈ pre, smallB z = true) ∧ (pre.length : Int) ≤ steps) ∧ ∃ v, OrbV w R steps (.slice none 0 0) (.int .i64 0) v v pre pre W)
    (fun co pre W => ∃ q y, pre = q ++ [y] ∧ (q.Nodup ∧ (∀ z ∈ q, smallB z = true) ∧ (q.length : Int) ≤ steps) ∧ ((co = .exit 0 ∧ smallB y = true ∧ (q.contains y || decide (steps < (q.length : Int) + 1)) = true ∧ ∃ v, OrbV w R steps (.slice none 0 0) (.int .i64 0) v v pre q W) ∨ (co = .ret ∧ smallB y = false ∧ ∃ v, OrbV w R steps (.slice none 0 0) (.int .i64 5) v v q q W)))
    (fun pre X Y row h hg hr => ⟨h.1, h.2.imp fun v h => h.own hg (B := W0.heap.size) (by omega) hr⟩)
    ?hIx
    (fun pre W h => by have := h.1.2.2; omega)
    (fun r h => by omega)
    (fun pre X Y r hr h hg => ⟨h.1, h.2.imp fun v h => h.other hg hr⟩)
    ⟨⟨List.nodup_nil, by simp, by simp; omega⟩, _, hO⟩
    ?a1 ?assign ?body ?done ?stop
  case hIx =>
    rintro co pre X Y row ⟨q, y, h1, h2, h3⟩ hg hr
    refine ⟨q, y, h1, h2, h3.imp (fun h => ⟨h.1, h.2.1, h.2.2.1, h.2.2.2.imp fun v h => h.own hg (B := W0.heap.size) (by omega) hr⟩) (fun h => ⟨h.1, h.2.1, h.2.2.imp fun v h => h.own hg (B := W0.heap.size) (by omega) hr⟩)⟩
  case assign =>
    intro l x W K hK
    gi_wp2
    exact hK
  case body =>
    rintro l pre y W hle ⟨⟨hnd, hsm, hlen⟩, v, hV⟩ _
    obtain ⟨x1, ⟨x2, y2⟩, ⟨x3, y3⟩, ⟨x4, y4⟩, x6, z6, _⟩ := hV.facts
    have HV := Lib.hid hV
    have HQ := Lib.hid (show pre.Nodup ∧ (∀ z ∈ pre, smallB z = true) ∧ (pre.length : Int) ≤ steps from ⟨hnd, hsm, hlen⟩)
    clear hV hnd hsm
    cases hs : smallB y
    · have HS := Lib.hid hs
      gi_wp2_with (refine ⟨trivial, ?_⟩; gi_at_call 59; refine (CallsIn.inRound l (callsIn_wide.2 (small_any _ _))).mono ?_; rintro e w4 ⟨rfl, rfl⟩)
      exact ⟨((KeepsOthers.setCell _ _ _).trans (KeepsOthers.setCell _ _ _)).from _, pre, y, rfl, HQ.out, .inr ⟨rfl, HS.out, v, HV.out.done⟩⟩
    · have HSM := Lib.hid hs
      have hlen' : pre.length < 600 := by omega
      have HWF := Lib.hid (wf_small hs)
      cases hqc : pre.contains y
      · have HQC := Lib.hid hqc
        clear hqc
        cases hqs : decide (steps < (pre.length : Int) + 1)
        · have HQS := Lib.hid hqs
          gi_wp2_with (first
            | (refine ⟨trivial, ?_⟩; gi_at_call 59; refine (CallsIn.inRound l (callsIn_wide.2 (small_any _ _))).mono ?_; rintro e w4 ⟨rfl, rfl⟩)
            | (gi_at_builtin; refine appendI _ rfl (.tmp 38) (.tmp 40) rfl (R + 1 + 1 + 1 + 1 + 1 + 1) v pre rfl (HV.out.2.1.alloc _) W.heap.size y rfl (by simp) (by omega) (by simp; omega) ?_; intro v' w2 hrow hgrow hat; obtain ⟨g', cap', rfl, ⟨x1, x4, y4, x6, z6, z7⟩, hV2, hC2, hlk⟩ := HV.out.step hrow hgrow HWF.out; rw [HQC.out] at hlk; have HV2 := Lib.hid hV2; have HC2 := Lib.hid hC2; clear hV2 hC2 hrow hgrow hat)
            | (gi_at_lookup; refine wpListIn_lookup_run rfl _ _ 79 rfl rfl rfl hlk ?_)
            | (gi_at_mapUpdate; obtain ⟨w3, r1, r2, r3⟩ := HV2.out.2.2.1.put y HWF.out (by omega); refine wpListIn_mapUpdate_run rfl _ _ _ 79 rfl rfl rfl rfl r1 ?_; have HV3 := Lib.hid (HV2.out.mapped r3 r2); have HC3 := Lib.hid (HC2.out.grow r3 (fun r e => by injection e with e; exact .inr (.inl e.symm))); clear r1 r2 r3))
          exact ⟨HC3.out.keeps (by omega), HC3.out.kp (by omega) rfl rfl HV.out.2.2.2.2.1, ⟨by rw [List.nodup_append]; exact ⟨HQ.out.1, by simp, fun a ha b hb => by rw [List.mem_singleton] at hb; subst hb; intro e; subst e; have := HQC.out; rw [List.contains_iff_mem.2 ha] at this; cases this⟩, fun z hz => by rcases List.mem_append.1 hz with h | h; exact HQ.out.2.1 z h; rw [List.mem_singleton] at h; subst h; exact HSM.out, by have := of_decide_eq_false HQS.out; simp; omega⟩, _, HV3.out⟩
        · have HQS := Lib.hid hqs
          gi_wp2_with (first
            | (refine ⟨trivial, ?_⟩; gi_at_call 59; refine (CallsIn.inRound l (callsIn_wide.2 (small_any _ _))).mono ?_; rintro e w4 ⟨rfl, rfl⟩)
            | (gi_at_builtin; refine appendI _ rfl (.tmp 38) (.tmp 40) rfl (R + 1 + 1 + 1 + 1 + 1 + 1) v pre rfl (HV.out.2.1.alloc _) W.heap.size y rfl (by simp) (by omega) (by simp; omega) ?_; intro v' w2 hrow hgrow hat; obtain ⟨g', cap', rfl, ⟨x1, x4, y4, x6, z6, z7⟩, hV2, hC2, hlk⟩ := HV.out.step hrow hgrow HWF.out; rw [HQC.out] at hlk; have HV2 := Lib.hid hV2; have HC2 := Lib.hid hC2; clear hV2 hC2 hrow hgrow hat)
            | (gi_at_lookup; refine wpListIn_lookup_run rfl _ _ 79 rfl rfl rfl hlk ?_))
          exact ⟨HC2.out.keeps (by omega), pre, y, rfl, HQ.out, .inl ⟨rfl, HSM.out, by rw [HQC.out, HQS.out]; rfl, _, HV2.out⟩⟩
      · have HQC := Lib.hid hqc
        clear hqc
        gi_wp2_with (first
          | (refine ⟨trivial, ?_⟩; gi_at_call 59; refine (CallsIn.inRound l (callsIn_wide.2 (small_any _ _))).mono ?_; rintro e w4 ⟨rfl, rfl⟩)
          | (gi_at_builtin; refine appendI _ rfl (.tmp 38) (.tmp 40) rfl (R + 1 + 1 + 1 + 1 + 1 + 1) v pre rfl (HV.out.2.1.alloc _) W.heap.size y rfl (by simp) (by omega) (by simp; omega) ?_; intro v' w2 hrow hgrow hat; obtain ⟨g', cap', rfl, ⟨x1, x4, y4, x6, z6, z7⟩, hV2, hC2, hlk⟩ := HV.out.step hrow hgrow HWF.out; rw [HQC.out] at hlk; have HV2 := Lib.hid hV2; have HC2 := Lib.hid hC2; clear hV2 hC2 hrow hgrow hat)
          | (gi_at_lookup; refine wpListIn_lookup_run rfl _ _ 79 rfl rfl rfl hlk ?_))
        exact ⟨HC2.out.keeps (by omega), pre, y, rfl, HQ.out, .inl ⟨rfl, HSM.out, by rw [HQC.out]; rfl, _, HV2.out⟩⟩
  case done =>
    rintro D xs W hD ⟨k, rfl, _, hl⟩ ⟨⟨_, hsm, _⟩, _⟩ _ _
    have := hsm (iterW m t p k n) (by rw [orbTo_succ]; simp)
    rw [hl] at this
    cases this
  case stop =>
    rintro D co pre W hD ⟨k, hpre, hsk⟩ ⟨q, y, hqy, ⟨hnd, hsm, hlen⟩, hco⟩ hK hD2
    have e1 := hpre.symm.trans hqy
    rw [orbTo_succ] at e1
    obtain ⟨rfl, e2⟩ := List.append_inj' e1 rfl
    simp only [List.cons.injEq, and_true] at e2
    subst e2
    rw [orbTo_length] at hlen
    have hgo := orbGo_to m t p n steps k hnd hsk hlen 502 (by omega)
    rw [show 502 - k = (501 - k) + 1 by omega] at hgo
    have hgo := hgo.trans (show _ = (if smallB (iterW m t p k n) then (if (orbTo m t p n k).contains (iterW m t p k n) || decide (steps < ((orbTo m t p n k).length : Int) + 1) then some (orbTo m t p n k ++ [iterW m t p k n]) else orbGo m t p steps (501 - k) (orbTo m t p n k ++ [iterW m t p k n]) (sentW m t p (iterW m t p k n))) else none) from rfl)
    rcases hco with ⟨rfl, hsy, hc, v, hV⟩ | ⟨rfl, hsy, v, hV⟩
    · rw [if_pos hsy, if_pos hc, ← orbTo_succ] at hgo
      rw [hpre] at hV
      obtain ⟨g', cap', rfl⟩ := hV.2.1.form (by rw [orbTo_succ]; simp)
      obtain ⟨x1, ⟨x2, y2⟩, ⟨x3, y3⟩, ⟨x4, y4⟩, x6, z6, _⟩ := hV.facts
      have hV2 := (hV.done (u1 := (.slice (some ⟨g', 0, none⟩) (orbTo m t p n (k + 1)).length cap')) (u2 := .int .i64 0)).own (grownBy_putObj' _ D (.deferred none)) (B := W0.heap.size) (by omega) (fun r e => by injection e with e; subst e; exact ⟨hD, _, (Below.heap_setCell _ _ _ _ (by show _ ≠ w.heap.size + 1 + 1 + 1; omega)).trans ((Below.heap_setCell _ _ _ _ (by show _ ≠ w.heap.size + 1 + 1; omega)).trans hK), rfl⟩)
      have hK2 := (Below.heap_setCell (W.setCell ⟨w.heap.size + 1 + 1, 0, none⟩ (.slice (some ⟨g', 0, none⟩) (orbTo m t p n (k + 1)).length cap')) ⟨w.heap.size + 1 + 1 + 1, 0, none⟩ (.int .i64 0) D (by show _ ≠ w.heap.size + 1 + 1 + 1; omega)).trans ((Below.heap_setCell W ⟨w.heap.size + 1 + 1, 0, none⟩ (.slice (some ⟨g', 0, none⟩) (orbTo m t p n (k + 1)).length cap') D (by show _ ≠ w.heap.size + 1 + 1; omega)).trans hK)
      have HV := Lib.hid hV2
      have HK := Lib.hid hK2
      have HGO := Lib.hid hgo
      clear hV hV2 hgo hpre hqy hc hsm hnd hsk e1 hK hK2
      gi_wp2
      refine ⟨by simp, .inl ⟨_, _, rfl, run_takeDeferred HK.out, ?_⟩⟩
      have e := HRES.out.symm.trans HGO.out
      subst e
      have e5 := HCD.out
      simp only [Option.isSome_some, if_true] at e5
      subst e5
      have hV := HV.out
      exact ⟨_, results_cc rfl _ _ rfl rfl hV.1.2.1.one.1 hV.1.2.2.1.one.1, _, rfl, hV.2.1.R (by omega), hV.2.2.2.1⟩
    · rw [if_neg (by rw [hsy]; decide)] at hgo
      have hV2 := hV.own (grownBy_putObj' _ D (.deferred none)) (B := W0.heap.size) (by omega) (fun r e => by injection e with e; subst e; exact ⟨hD, _, hK, rfl⟩)
      have HV := Lib.hid hV2
      have HK := Lib.hid hK
      have HGO := Lib.hid hgo
      clear hV hV2 hgo hpre hqy hsm hnd hsk e1 hK
      gi_wp2
      refine ⟨by simp, .inl ⟨_, _, rfl, run_takeDeferred HK.out, ?_⟩⟩
      have e := HRES.out.symm.trans HGO.out
      subst e
      have e5 := HCD.out
      simp only [Option.isSome_none, Bool.false_eq_true, if_false] at e5
      subst e5
      have hV := HV.out
      exact ⟨_, results_cc rfl _ _ rfl rfl hV.1.2.1.one.1 hV.1.2.2.1.one.1, .slice none 0 0, rfl, Kd.R_nil _ _ _ _ _, hV.2.2.2.1⟩

set_option maxHeartbeats 1000000 in
theorem wheel_Orbit.calls (m : Int) (A1 : Option Addr) (c1 : Nat) (t : List Int) (A2 : Option Addr) (c2 : Nat) (p : List Int) (n steps : Int) (r1 : List Int) (r2 : Int) (w : World) (h1 : Kd.C (Kd.int .i64) w A1 t.length t) (hc1 : t.length ≤ c1) (h2 : Kd.C (Kd.int .i64) w A2 p.length p) (hc2 : p.length ≤ c2) (h : wheel_Orbit.f m t p n steps = some (r1, r2)) :
    Calls Try.prog 24 #[.agg #[.int .i64 m, .slice A1 t.length c1, .slice A2 p.length c2], .int .i64 n, .int .i64 steps] w fun e w' => ∃ v0_ : Value, e = .returned (.tuple #[v0_, .int .i64 r2]) ∧ Kd.R (Kd.int .i64) 3 w' w.heap.size (fun _ => True) v0_ r1 ∧ Below w.heap.size w w' := by
  simp only [wheel_Orbit.f, Option.some.injEq] at h
  cases hb : (ruleB m t p && (smallB n && inB steps 0 500))
  · rw [hb] at h
    simp only [Bool.false_eq_true, if_false, Prod.mk.injEq] at h
    obtain ⟨rfl, rfl⟩ := h
    refine (orbit_bad m A1 c1 t A2 c2 p n steps w h1 h2 hb).mono ?_
    rintro e w' ⟨rfl, hbel⟩
    exact ⟨_, rfl, Kd.R_nil _ _ _ _ _, hbel⟩
  · rw [hb] at h
    simp only [Bool.and_eq_true] at hb
    refine (orbit_ok m A1 c1 t A2 c2 p n steps w h1 h2 hb.1 hb.2.1 hb.2.2 _ rfl _ rfl).mono ?_
    rintro e w' ⟨v, rfl, hv, hbel⟩
    cases hg : orbGo m t p steps 502 [] n with
    | none =>
      rw [hg] at h hv
      simp only [if_true, Prod.mk.injEq] at h
      obtain ⟨rfl, rfl⟩ := h
      exact ⟨_, rfl, hv, hbel⟩
    | some l =>
      rw [hg] at h hv
      simp only [if_true, Prod.mk.injEq] at h
      obtain ⟨rfl, rfl⟩ := h
      exact ⟨_, rfl, hv, hbel⟩
end Go.Proofs.Ytkjojcepombhpaa.L
