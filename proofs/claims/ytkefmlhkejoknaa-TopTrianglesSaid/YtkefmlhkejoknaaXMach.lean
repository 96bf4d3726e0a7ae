/- tread.newMachine at the set aa, ab, bb of two letters. -/
import Derived.Test.YtkefmlhkejoknaaXAvoid
import Derived.Test.YtkefmlhkejoknaaXRows
import Derived.Maps.OwnSet
import Derived.Laws.RangeAny
import Derived.StringKeys
namespace Go.Proofs.Ytkefmlhkejoknaa.L
set_option linter.unusedVariables false
set_option linter.unusedSimpArgs false
open Go.RowKit Go.Shelf Go.Maps Go.Proofs.YtkefmlhkejoknaaW.PrintWords Go.Proofs.YtkefmlhkejoknaaW.PrintLast Go.Proofs.YtkefmlhkejoknaaW.PrintMore
attribute [local go_sem] max2_int min2_int max_two min_two Oper.semAt_some

/-- A range over a string, its iterator anywhere. -/
theorem run_next_at {P : Program} (W : World) (g : Nat) (s : ByteArray) (pos : Nat) (ty : TypeId) (hg : W.heap[g]? = some (.stringIter s pos)) (h : pos < s.size) :
    (Instr.next (.pointer (some ⟨g, 0, none⟩)) true ty).run P W = .ok (.tuple #[.bool true, .int .i64 pos, .int .i32 (Utf8.decode s pos).1]) (W.putObj g (.stringIter s (pos + (Utf8.decode s pos).2))) := by
  simp only [Instr.next, getObj, setObj, Sem.run_bind, Sem.run, hg, Result.andThen, h, if_true]
  simp [goInt, World.putObj]
theorem run_next_over {P : Program} (W : World) (g : Nat) (s : ByteArray) (pos : Nat) (ty : TypeId) (hg : W.heap[g]? = some (.stringIter s pos)) (h : ¬ pos < s.size) :
    (Instr.next (.pointer (some ⟨g, 0, none⟩)) true ty).run P W = .ok (.tuple #[.bool false]) W := by
  simp [Instr.next, getObj, Sem.run, hg, h]
theorem grownBy_setCell1 (W : World) (b i : Nat) (v : Value) : W.grownBy (W.setCell ⟨b, i, none⟩ v) (some b) :=
  ⟨rfl, rfl, rfl, (KeepsWalks.setCell W _ v).size, fun k _ hk => Below.heap_setCell _ _ _ k (fun e => hk (by rw [e]))⟩
/-- A machine under way. -/
structure MacS where
  mB : Nat
  tB : Nat
  v1 : Value
  v2 : Value
  ss : List ByteArray
  ps : List ACyc
  n : Nat
  D : DataW Unit
structure MacV (w : World) (S : MacS) (W : World) : Prop where
  m : Whole W S.mB 192 #[.int .i64 2, S.v1, S.v2]
  st : W.ownsRow w.heap.size 9 1 S.v1 S.ss.length (S.ss.map Value.string)
  nx : RowsIs W w.heap.size S.v2 S.ps
  mp : W.ownsMap Try.prog 9 (plainElem (H := Unit) Try.prog 3) S.tB S.n S.D
  bel : Below w.heap.size w W
  low : w.heap.size ≤ S.mB ∧ w.heap.size ≤ S.tB
section
variable {w : World} {S : MacS} {W W' : World} {row : Option Nat}
theorem MacV.mapTyped (h : MacV w S W) : ∃ o, W.heap[S.tB]? = some o ∧ o.isCells = false := by
  obtain ⟨es, ck, hb, _⟩ := h.mp
  exact ⟨_, hb, rfl⟩
theorem MacV.kept (h : MacV w S W) (hg : W.grownBy W' row) (hne : ∀ k, row = some k → w.heap.size ≤ k ∧ k ≠ S.tB ∧ ((∃ o, W.heap[k]? = some o ∧ o.isCells = false) ∨ (∃ cs, W.heap[k]? = some (.cells cs 3 (0, 0))) ∧ ∀ q ∈ S.ps, q.1.ownBlock ≠ some k)) : MacV w S W' := by
  have hty : ∀ k t cs, W.heap[k]? = some (.cells cs t (0, 0)) → t ≠ 3 → some k ≠ row := by
    intro k t cs hk ht e
    obtain ⟨_, _, h1 | ⟨⟨cs', h1⟩, _⟩⟩ := hne k e.symm
    · obtain ⟨o, ho, hc⟩ := h1
      rw [hk] at ho; cases ho; cases hc
    · rw [hk] at h1; cases h1; exact ht rfl
  have hown : ∀ {B e n v xs}, W.ownsRow B e 1 v n xs → e ≠ 3 → v.ownBlock = none ∨ v.ownBlock ≠ row := by
    intro B e n v xs ho he
    cases hv : v.ownBlock with
    | none => exact .inl rfl
    | some k =>
      obtain ⟨cs, hc⟩ := own_typed ho k hv
      exact .inr (hty k e cs hc he)
  refine ⟨h.m.grown hg (hty _ 192 _ h.m (by decide)), h.st.kept hg (hown h.st (by decide)), ⟨h.nx.1.kept hg (hown h.nx.1 (by decide)), fun q hq => ?_, h.nx.2.2⟩, h.mp.kept hg ?_, h.bel.grown hg h.bel.size (fun k e => (hne k e).1), h.low⟩
  · have hr := h.nx.2.1 q hq
    refine hr.kept hg ?_
    cases hv : q.1.ownBlock with
    | none => exact .inl rfl
    | some k =>
      refine .inr fun e => ?_
      obtain ⟨_, _, h1 | ⟨_, h1⟩⟩ := hne k e.symm
      · obtain ⟨o, ho, hc⟩ := h1
        obtain ⟨cs, hc2⟩ := hr.typed hv
        rw [hc2] at ho; cases ho; cases hc
      · exact h1 q hq hv
  · intro e
    exact (hne _ e.symm).2.1 rfl
theorem MacV.below (h : MacV w S W) (hb : Below W.heap.size W W') : MacV w S W' := h.kept (grown_of_below hb none) (fun k e => by cases e)
theorem MacV.alloc (h : MacV w S W) (o : Obj) : MacV w S (W.alloc o) := h.kept (World.grownBy_alloc W o none) (fun k e => by cases e)
theorem MacV.iter (h : MacV w S W) {g : Nat} {o o' : Obj} (hg : W.heap[g]? = some o) (ho : o.isCells = false) (hb : w.heap.size ≤ g) (hne : g ≠ S.tB) : MacV w S (W.putObj g o') :=
  h.kept (grownBy_putObj' W g o') (fun k e => by cases e; exact ⟨hb, hne, .inl ⟨o, hg, ho⟩⟩)
/-- A block of one of these types is none of the others. -/
theorem ty_ne {k k' t t' : Nat} {cs cs' : Array Value} (h : W.heap[k]? = some (.cells cs t (0, 0))) (h' : W.heap[k']? = some (.cells cs' t' (0, 0))) (hne : t ≠ t') : k ≠ k' := by
  rintro rfl
  rw [h] at h'; cases h'; exact hne rfl
theorem own_ne {B e n k t : Nat} {v : Value} {xs : List Value} {cs : Array Value} (ho : W.ownsRow B e 1 v n xs) (h : W.heap[k]? = some (.cells cs t (0, 0))) (hne : e ≠ t) : v.ownBlock = none ∨ v.ownBlock ≠ some k := by
  cases hv : v.ownBlock with
  | none => exact .inl rfl
  | some k' =>
    obtain ⟨cs', hc⟩ := own_typed ho k' hv
    exact .inr fun e2 => by cases e2; exact ty_ne hc h hne rfl
/-- The states grow. -/
theorem MacV.states (h : MacV w S W) {v1' : Value} {s : ByteArray} (hs : W'.ownsRow w.heap.size 9 1 v1' (S.ss.length + 1) (S.ss.map Value.string ++ [.string s])) (hg : W.grownBy W' S.v1.ownBlock) :
    MacV w { S with v1 := v1', ss := S.ss ++ [s] } (W'.setCell ⟨S.mB, 1, none⟩ v1') := by
  have hrow : ∀ k t cs, W.heap[k]? = some (.cells cs t (0, 0)) → t ≠ 9 → some k ≠ S.v1.ownBlock := by
    intro k t cs hk ht e
    obtain ⟨cs', hc⟩ := own_typed h.st k e.symm
    exact ty_ne hc hk (Ne.symm ht) rfl
  have hm' : Whole W' S.mB 192 #[.int .i64 2, S.v1, S.v2] := h.m.grown hg (hrow _ 192 _ h.m (by decide))
  have hset := grownBy_setCell1 W' S.mB 1 v1'
  have hnx1 : RowsIs W' w.heap.size S.v2 S.ps := by
    refine ⟨h.nx.1.kept hg ?_, fun q hq => (h.nx.2.1 q hq).kept hg ?_, h.nx.2.2⟩
    · cases hv : S.v2.ownBlock with
      | none => exact .inl rfl
      | some k => obtain ⟨cs, hc⟩ := own_typed h.nx.1 k hv; exact .inr (hrow k 39 cs hc (by decide))
    · cases hv : q.1.ownBlock with
      | none => exact .inl rfl
      | some k => obtain ⟨cs, hc⟩ := (h.nx.2.1 q hq).typed hv; exact .inr (hrow k 3 cs hc (by decide))
  have hmp1 := h.mp.kept hg (by
    intro e
    obtain ⟨cs, hc⟩ := own_typed h.st _ e.symm
    obtain ⟨o, ho, hf⟩ := h.mapTyped
    rw [hc] at ho; cases ho; cases hf)
  have hmpB : ∃ o, W'.heap[S.tB]? = some o ∧ o.isCells = false := by
    obtain ⟨es, ck, hb, _⟩ := hmp1
    exact ⟨_, hb, rfl⟩
  refine ⟨hm'.set 1 v1', ?_, ⟨hnx1.1.kept hset (own_ne hnx1.1 hm' (by decide)), fun q hq => (hnx1.2.1 q hq).kept hset (own_ne (hnx1.2.1 q hq) hm' (by decide)), hnx1.2.2⟩, hmp1.kept hset ?_, Below.setAt (h.bel.grown hg h.bel.size (fun k e => own_base h.st k e)) h.low.1 1 v1', h.low⟩
  · have := hs.kept hset (own_ne hs hm' (by decide))
    rw [show (S.ss ++ [s]).length = S.ss.length + 1 by simp, show (S.ss ++ [s]).map Value.string = S.ss.map Value.string ++ [.string s] by simp]
    exact this
  · intro e
    injection e with e
    obtain ⟨o, ho, hf⟩ := hmpB
    rw [e, show W'.heap[S.mB]? = _ from hm'] at ho; cases ho; cases hf
/-- A row more. -/
theorem MacV.rows (h : MacV w S W) {v2' : Value} {q : ACyc} (hs : W'.ownsRow w.heap.size 39 1 v2' (S.ps.length + 1) (S.ps.map Prod.fst ++ [q.1])) (hg : W.grownBy W' S.v2.ownBlock) (hq : RowIs W w.heap.size q.1 q.2) (hp : ∀ r ∈ S.ps, Parted r.1 q.1) :
    MacV w { S with v2 := v2', ps := S.ps ++ [q] } (W'.setCell ⟨S.mB, 2, none⟩ v2') := by
  have hrow : ∀ k t cs, W.heap[k]? = some (.cells cs t (0, 0)) → t ≠ 39 → some k ≠ S.v2.ownBlock := by
    intro k t cs hk ht e
    obtain ⟨cs', hc⟩ := own_typed h.nx.1 k e.symm
    exact ty_ne hc hk (Ne.symm ht) rfl
  have hm' : Whole W' S.mB 192 #[.int .i64 2, S.v1, S.v2] := h.m.grown hg (hrow _ 192 _ h.m (by decide))
  have hset := grownBy_setCell1 W' S.mB 2 v2'
  have hrows : ∀ r, RowIs W w.heap.size r.1 r.2 → RowIs (W'.setCell ⟨S.mB, 2, none⟩ v2') w.heap.size (r : ACyc).1 r.2 := by
    intro r hr
    have h1 : RowIs W' w.heap.size r.1 r.2 := hr.kept hg (by
      cases hv : r.1.ownBlock with
      | none => exact .inl rfl
      | some k => obtain ⟨cs, hc⟩ := hr.typed hv; exact .inr (hrow k 3 cs hc (by decide)))
    exact h1.kept hset (own_ne h1 hm' (by decide))
  have hst1 := h.st.kept hg (by
    cases hv : S.v1.ownBlock with
    | none => exact .inl rfl
    | some k => obtain ⟨cs, hc⟩ := own_typed h.st k hv; exact .inr (hrow k 9 cs hc (by decide)))
  have hmp1 := h.mp.kept hg (by
    intro e
    obtain ⟨cs, hc⟩ := own_typed h.nx.1 _ e.symm
    obtain ⟨o, ho, hf⟩ := h.mapTyped
    rw [hc] at ho; cases ho; cases hf)
  have hmpB : ∃ o, W'.heap[S.tB]? = some o ∧ o.isCells = false := by
    obtain ⟨es, ck, hb, _⟩ := hmp1
    exact ⟨_, hb, rfl⟩
  refine ⟨hm'.set 2 v2', hst1.kept hset (own_ne hst1 hm' (by decide)), ⟨?_, ?_, ?_⟩, hmp1.kept hset ?_, Below.setAt (h.bel.grown hg h.bel.size (fun k e => own_base h.nx.1 k e)) h.low.1 2 v2', h.low⟩
  · have := hs.kept hset (own_ne hs hm' (by decide))
    rw [show (S.ps ++ [q]).length = S.ps.length + 1 by simp, show (S.ps ++ [q]).map Prod.fst = S.ps.map Prod.fst ++ [q.1] by simp]
    exact this
  · intro r hr
    rcases List.mem_append.1 hr with h1 | h1
    · exact hrows r (h.nx.2.1 r h1)
    · rw [List.mem_singleton] at h1; subst h1; exact hrows r hq
  · refine List.pairwise_append.2 ⟨h.nx.2.2, List.pairwise_singleton _ _, fun a ha b hb => ?_⟩
    rw [List.mem_singleton] at hb
    subst hb
    exact hp a ha
  · intro e
    injection e with e
    obtain ⟨o, ho, hf⟩ := hmpB
    rw [e, show W'.heap[S.mB]? = _ from hm'] at ho; cases ho; cases hf
/-- An entry more. -/
theorem MacV.entry (h : MacV w S W) {n' : Nat} {D' : DataW Unit} (hm : W'.ownsMap Try.prog 9 (plainElem (H := Unit) Try.prog 3) S.tB n' D') (hg : W.grownBy W' (some S.tB)) : MacV w { S with n := n', D := D' } W' := by
  obtain ⟨o, ho, hf⟩ := h.mapTyped
  have hne : ∀ k t cs, W.heap[k]? = some (.cells cs t (0, 0)) → some k ≠ some S.tB := by
    intro k t cs hk e
    cases e
    rw [hk] at ho; cases ho; cases hf
  have hown : ∀ {B e n v xs}, W.ownsRow B e 1 v n xs → v.ownBlock = none ∨ v.ownBlock ≠ some S.tB := by
    intro B e n v xs ho
    cases hv : v.ownBlock with
    | none => exact .inl rfl
    | some k =>
      obtain ⟨cs, hc⟩ := own_typed ho k hv
      exact .inr (hne k e cs hc)
  exact ⟨h.m.grown hg (hne _ 192 _ h.m), h.st.kept hg (hown h.st), ⟨h.nx.1.kept hg (hown h.nx.1), fun q hq => (h.nx.2.1 q hq).kept hg (hown (h.nx.2.1 q hq)), h.nx.2.2⟩, hm, h.bel.grown hg h.bel.size (fun k e => by cases e; exact h.low.2), h.low⟩
end
theorem under193 : Try.prog.underlying 193 = some (.map 9 3) := by kernel_rfl
theorem under72 : Try.prog.underlying 72 = some (.slice 39) := by kernel_rfl
theorem under96 : Try.prog.underlying 96 = some (.slice 9) := by kernel_rfl
theorem zero3T (w : World) : (zeroValue 3).run Try.prog w = .ok (.int .i64 0) w := by kernel_rfl
abbrev lt0 : ByteArray := ⟨#[]⟩
abbrev ltA : ByteArray := ⟨#[97]⟩
abbrev ltB : ByteArray := ⟨#[98]⟩
abbrev ltBA : ByteArray := ⟨#[98, 97]⟩
def allS : List ByteArray := [lt0, ltA, ltB, ltBA]
def allR : List (List Int) := [[1, 2], [-1, -1], [3, -1], [-1, -1]]
def putD (D : DataW Unit) (s : ByteArray) (v : Int) : DataW Unit := D.put (.string s.data.toList) (.lit (.int .i64 v))
def dOf : Nat → DataW Unit
  | 0 => .map []
  | k + 1 => putD (dOf k) (allS.getD k lt0) (k : Int)
/-- How many states there are at the start of a round. -/
def stN : Nat → Nat | 0 => 1 | 1 => 3 | 2 => 3 | _ => 4
theorem MacV.form {w : World} {S : MacS} {W : World} (h : MacV w S W) (hne : S.ss ≠ []) : ∃ g c, S.v1 = .slice (some ⟨g, 0, none⟩) S.ss.length c ∧ ∀ j, j < S.ss.length → W.cell? ⟨g, j, none⟩ = some (.string (S.ss.getD j lt0)) := by
  rcases h.st.2 with ⟨_, h3⟩ | ⟨g, cap, cur, hv, _⟩
  · exact absurd (List.length_eq_zero_iff.1 h3) hne
  · refine ⟨g, cap, hv, fun j hj => ?_⟩
    have := h.st.cells (g := g) (by rw [hv]; rfl) j (.string (S.ss.getD j lt0)) (by rw [List.getElem?_map, List.getD_eq_getElem?_getD, List.getElem?_eq_getElem hj]; rfl)
    rwa [add_plain] at this

/-- How many states there are within a round. -/
def kN : Nat → Nat → Nat | 0, 0 => 1 | 0, 1 => 2 | 0, _ => 3 | 1, _ => 3 | 2, 0 => 3 | 2, _ => 4 | _, _ => 4
/-- append of one element, to a row of the call's own. -/
theorem wpList_append1 {P : Program} (w : World) {ops : Array Oper} {rest : List Oper} {o : Oper} {a : Act} {Q : Exit → Act → World → Prop} (hgd : o.guard = none) (s x : Operand) (t : TypeId)
    (ho : o.op = .call { callee := .builtin .append, args := #[s, x], argTypes := #[t, t] })
    (base : Nat) (e : TypeId) (z : Value) (bytes : Nat) (ht : P.underlying t = some (.slice e)) (hi : (P.info? e).map (fun i => (i.zero, i.size, i.bytes)) = some (some z, 1, bytes)) (hzs : z.cells.size = 1) (hby : bytes ≤ 24)
    (v : Value) (n : Nat) (xs : List Value) (hs : a.eval s = v) (hown : w.ownsRow base e 1 v n xs)
    (g c : Nat) (u : Value) (hx : a.eval x = .slice (some ⟨g, 0, none⟩) 1 c) (hu : w.cell? ⟨g, 0, none⟩ = some u) (h1 : u.oneCell' = true) (hn : n ≤ 1000) (hbase : base ≤ w.heap.size)
    (h : ∀ v' w', w'.ownsRow base e 1 v' (n + 1) (xs ++ [u]) → w.grownBy w' v.ownBlock → wpList P ops Q rest (a.put o.dst v') w') : wpList P ops Q (o :: rest) a w := by
  obtain ⟨i, hi1, hi2⟩ := Option.map_eq_some_iff.1 hi
  simp only [Prod.mk.injEq] at hi2
  obtain ⟨hz, hsz, hb⟩ := hi2
  refine wpList_append_own w hgd s x t ho base e i z 1 bytes ht hi1 hz hsz hb hzs (by decide) v n xs hs hown ⟨g, 0, none⟩ 1 c [u] hx (by simp) ?_ (by simpa using h1) (by simp [maxLen]; omega) ?_ hbase fun v' w' h2 h3 _ => h v' w' h2 h3
  · intro j u' hj
    cases j with
    | zero => cases hj; exact hu
    | succ j => simp at hj
  · exact Nat.le_trans (Nat.mul_le_mul (show n + 1 ≤ 1001 by omega) hby) (by decide)
theorem own_formG {W : World} {B e k : Nat} {v : Value} {us : List Value} (h : W.ownsRow B e 1 v k us) : ∃ A c, v = .slice A k c := by
  rcases h.2 with ⟨h1, h2⟩ | ⟨g, cap, _, h1, _⟩
  · subst h2
    exact ⟨none, 0, h1⟩
  · exact ⟨_, cap, h1⟩
theorem newCellQ (W : World) (g t : Nat) (u : Value) (hg : g = W.heap.size) : (W.alloc (.cells #[u] t)).cell? ⟨g, 0, none⟩ = some u := by
  subst hg
  exact (Whole.new W t #[u]).cell 0
theorem RowIs.snoc {W : World} {B : Nat} {v : Value} {xs : List Int} {y : Int} (h : W.ownsRow B 3 1 v (xs.length + 1) (encs (Value.int .i64) xs ++ [.int .i64 y])) : RowIs W B v (xs ++ [y]) := by
  unfold RowIs
  rw [show (xs ++ [y]).length = xs.length + 1 by simp, show encs (Value.int .i64) (xs ++ [y]) = encs (Value.int .i64) xs ++ [.int .i64 y] by simp [encs]]
  exact h

/-- A round under way: the row v of numbers xs, the iterator at pos. -/
structure InV (w : World) (B : Nat) (S : MacS) (v : Value) (xs : List Int) (pos : Nat) (W : World) : Prop where
  mac : MacV w S W
  row : RowIs W B v xs
  it : W.heap[B]? = some (.stringIter sAB pos)
  old : ∀ q ∈ S.ps, ∀ k, q.1.ownBlock = some k → k < B
  low : w.heap.size ≤ B ∧ S.tB < B
section
variable {w : World} {B : Nat} {S : MacS} {v : Value} {xs : List Int} {pos : Nat} {W W' : World}
theorem InV.lt (h : InV w B S v xs pos W) : B < W.heap.size := (Array.getElem?_eq_some_iff.1 h.it).1
theorem InV.step (h : InV w B S v xs pos W) (pos' : Nat) : InV w B S v xs pos' (W.putObj B (.stringIter sAB pos')) :=
  ⟨h.mac.iter h.it rfl h.low.1 (by have := h.low.2; omega), h.row.own (grownBy_putObj' W B _) (fun r e => by cases e; exact ⟨_, h.it, rfl⟩), World.putObj_heap_same h.lt, h.old, h.low⟩
theorem InV.below (h : InV w B S v xs pos W) (hb : Below W.heap.size W W') : InV w B S v xs pos W' :=
  ⟨h.mac.below hb, h.row.below hb, (hb.block B h.lt).trans h.it, h.old, h.low⟩
theorem InV.alloc (h : InV w B S v xs pos W) (o : Obj) : InV w B S v xs pos (W.alloc o) := h.below (below_alloc (Below.refl _ _) o)
theorem InV.itNe (h : InV w B S v xs pos W) {k : Nat} (hc : ∃ o, W.heap[k]? = some o ∧ o.isCells = true) : some B ≠ some k := fun e => by
  injection e with e
  obtain ⟨o, ho, hc⟩ := hc
  rw [← e, h.it] at ho
  cases ho; cases hc
theorem InV.append (h : InV w B S v xs pos W) {v' : Value} {y : Int} (ho : W'.ownsRow B 3 1 v' (xs.length + 1) (encs (Value.int .i64) xs ++ [.int .i64 y])) (hg : W.grownBy W' v.ownBlock) : InV w B S v' (xs ++ [y]) pos W' := by
  refine ⟨h.mac.kept hg (fun k e => ?_), RowIs.snoc ho, (hg.block B h.lt (fun e => ?_)).trans h.it, h.old, h.low⟩
  · obtain ⟨cs, hc⟩ := h.row.typed e
    have hB := (h.row.block e).1
    refine ⟨Nat.le_trans h.low.1 hB, ?_, .inr ⟨⟨cs, hc⟩, fun q hq e2 => ?_⟩⟩
    · have := h.low.2; omega
    · have := h.old q hq k e2; omega
  · obtain ⟨_, _, hc⟩ := h.row.block e.symm
    exact h.itNe hc rfl
theorem InV.states (h : InV w B S v xs pos W) {v1' : Value} {s : ByteArray} (hs : W'.ownsRow w.heap.size 9 1 v1' (S.ss.length + 1) (S.ss.map Value.string ++ [.string s])) (hg : W.grownBy W' S.v1.ownBlock) :
    InV w B { S with v1 := v1', ss := S.ss ++ [s] } v xs pos (W'.setCell ⟨S.mB, 1, none⟩ v1') := by
  have hne : v.ownBlock = none ∨ v.ownBlock ≠ S.v1.ownBlock := by
    cases hv : S.v1.ownBlock with
    | none => cases hv2 : v.ownBlock with
      | none => exact .inl rfl
      | some k => exact .inr (by simp)
    | some k => obtain ⟨cs, hc⟩ := own_typed h.mac.st k hv; exact own_ne h.row hc (by decide)
  have hr1 := h.row.kept hg hne
  have hi1 : W'.heap[B]? = some (.stringIter sAB pos) := (hg.block B h.lt (fun e => by
    obtain ⟨cs, hc⟩ := own_typed h.mac.st _ e.symm
    exact h.itNe ⟨_, hc, rfl⟩ rfl)).trans h.it
  have hm' := (h.mac.states hs hg).m
  have hmm : ∃ cs, W'.heap[S.mB]? = some (.cells cs 192 (0, 0)) := ⟨_, h.mac.m.grown hg (fun e => by
    obtain ⟨cs, hc⟩ := own_typed h.mac.st _ e.symm
    exact ty_ne hc h.mac.m (by decide) rfl)⟩
  obtain ⟨cm, hcm⟩ := hmm
  have hset := grownBy_setCell1 W' S.mB 1 v1'
  exact ⟨h.mac.states hs hg, hr1.kept hset (own_ne hr1 hcm (by decide)), (hset.block B (Array.getElem?_eq_some_iff.1 hi1).1 (fun e => by
    injection e with e
    rw [e, hcm] at hi1; cases hi1)).trans hi1, h.old, h.low⟩
theorem MacV.wholeN (h : MacV w S W) (hg : W.grownBy W' S.v2.ownBlock) : Whole W' S.mB 192 #[.int .i64 2, S.v1, S.v2] :=
  h.m.grown hg (fun e => by
    obtain ⟨cs, hc⟩ := own_typed h.nx.1 _ e.symm
    exact ty_ne hc h.m (by decide) rfl)
/-- The round's row is apart from those before it. -/
theorem InV.parted (h : InV w B S v xs pos W) : ∀ q ∈ S.ps, Parted q.1 v := fun q hq k e e2 => by
  have h1 := h.old q hq k e
  have h2 := (h.row.block e2).1
  omega
theorem InV.whole (h : InV w B S v xs pos W) (hg : W.grownBy W' S.v1.ownBlock) : Whole W' S.mB 192 #[.int .i64 2, S.v1, S.v2] :=
  h.mac.m.grown hg (fun e => by
    obtain ⟨cs, hc⟩ := own_typed h.mac.st _ e.symm
    exact ty_ne hc h.mac.m (by decide) rfl)
theorem InV.entry (h : InV w B S v xs pos W) {n' : Nat} {D' : DataW Unit} (hm : W'.ownsMap Try.prog 9 (plainElem (H := Unit) Try.prog 3) S.tB n' D') (hg : W.grownBy W' (some S.tB)) : InV w B { S with n := n', D := D' } v xs pos W' := by
  obtain ⟨o, ho, hf⟩ := h.mac.mapTyped
  refine ⟨h.mac.entry hm hg, h.row.own hg (fun r e => by cases e; exact ⟨o, ho, hf⟩), (hg.block B h.lt (fun e => ?_)).trans h.it, h.old, h.low⟩
  injection e with e
  have := h.low.2
  omega
end
def stI {w : World} {B : Nat} {S : MacS} {v : Value} {xs : List Int} {pos : Nat} {W : World} (h : Hid (InV w B S v xs pos W)) : MacS := S
def stM {w : World} {S : MacS} {W : World} (h : Hid (MacV w S W)) : MacS := S
set_option maxRecDepth 100000 in
set_option maxHeartbeats 4000000 in
theorem newMachine_any (ad : Addr) (c : Nat) (w : World) (hsp : ad.spot = none) (hm : GlobM w) (hS : SetAt ad w) :
    Calls Try.prog 136 #[.int .i64 2, .slice (some ad) 3 c] w fun e w' => ∃ S : MacS, e = .returned (.pointer (some ⟨S.mB, 0, none⟩)) ∧ S.ss = allS ∧ S.ps.map Prod.snd = allR ∧ MacV w S w' := by
  have HM := Lib.hid hm
  have HS := Lib.hid hS
  clear hm hS
  have hmm := @run_makeMap Try.prog
  go_enter Try.func136, Try.ntmps136
  have hmp := World.ownsMap_made (((w.alloc (.cells #[.string ⟨#[]⟩] 9)).alloc (.cells #[.int .i64 2, .slice (some ⟨w.heap.size, 0, none⟩) 1 1, .slice none 0 0] 192))) Try.prog 9 (plainElem (H := Unit) Try.prog 3)
  simp only [World.size_alloc] at hmp
  obtain ⟨w2, hrun, hown1, hgrow1⟩ := hmp.update (Maps.string_keyed Try.underlying9) under193 (by decide) (key := .string ⟨#[]⟩) (val := .int .i64 0) (WideMaps.keyOf_string_mk Try.underlying9 (by decide)) (plainElem_int Try.underlying3 (by decide))
  have HO1 := Lib.hid hown1
  have HG1 := Lib.hid hgrow1
  clear hown1 hgrow1 hmp
  go_wp2
  have hV0 : MacV w ⟨w.heap.size + 1, w.heap.size + 1 + 1, .slice (some ⟨w.heap.size, 0, none⟩) 1 1, .slice none 0 0, allS.take 1, [], 1, dOf 1⟩ w2 := by
    have hne : ∀ k, k < w.heap.size + 1 + 1 → some k ≠ some (w.heap.size + 1 + 1) := fun k hk e => by injection e with e; omega
    have hst := World.ownsRow_lit (base := w.heap.size) (e := 9) (size := 1) w #[.string ⟨#[]⟩] 1 (Nat.le_refl _) (by simp [maxLen]) rfl
    have hst2 := (hst.kept (World.grownBy_alloc _ (.cells #[.int .i64 2, .slice (some ⟨w.heap.size, 0, none⟩) 1 1, .slice none 0 0] 192) none) (.inr (by simp [Value.ownBlock]))).kept (World.grownBy_alloc _ (.map #[] 0) none) (.inr (by simp [Value.ownBlock]))
    have hm2 := (Whole.new (w.alloc (.cells #[.string ⟨#[]⟩] 9)) 192 #[.int .i64 2, .slice (some ⟨w.heap.size, 0, none⟩) 1 1, .slice none 0 0]).alloc (.map #[] 0)
    rw [World.size_alloc] at hm2
    have hb2 := below_alloc (below_alloc (below_alloc (Below.refl w.heap.size w) (.cells #[.string ⟨#[]⟩] 9)) (.cells #[.int .i64 2, .slice (some ⟨w.heap.size, 0, none⟩) 1 1, .slice none 0 0] 192)) (.map #[] 0)
    exact ⟨hm2.grown HG1.out (hne _ (by omega)), hst2.kept HG1.out (.inr (by simp only [Value.ownBlock]; exact hne _ (by omega))), RowsIs.nil _ _, HO1.out, hb2.grown HG1.out hb2.size (fun k e => by injection e with e; omega), ⟨by simp, by simp; omega⟩⟩
  have HV0 := Lib.hid hV0
  clear hV0 HO1 HG1 hrun
  go_loopw [7] (fun iv wr => ∃ (i : Nat) (S : MacS), i ≤ 4 ∧ iv = .int .i64 i ∧ S.mB = w.heap.size + 1 ∧ S.tB = w.heap.size + 1 + 1 ∧ S.ss = allS.take (stN i) ∧ S.ps.map Prod.snd = allR.take i ∧ S.n = stN i ∧ S.D = dOf (stN i) ∧ Hid (MacV w S wr)) (fun iv _ => 4 - (intOf iv).toNat)
  case atStart => exact ⟨0, _, by omega, rfl, rfl, rfl, rfl, rfl, rfl, rfl, HV0⟩
  case round =>
    obtain ⟨i, S, hi, rfl, hmB, htB, hss, hps, hn, hD, HV⟩ := hrel
    obtain rfl | rfl | rfl | rfl | rfl : i = 0 ∨ i = 1 ∨ i = 2 ∨ i = 3 ∨ i = 4 := by omega
    · -- 0
      obtain ⟨g0, c0, hv0, hc0⟩ := HV.out.form (by rw [hss]; simp [allS, stN])
      have hlen0 : S.ss.length = 1 := by rw [hss]; rfl
      have m0 := HV.out.m.cell 1
      simp only [List.getElem?_toArray, List.getElem?_cons_zero, List.getElem?_cons_succ] at m0
      rw [hlen0] at hv0
      rw [hmB, hv0] at m0
      clear hc0
      have hex : (⟨#[97, 98, 99]⟩ : ByteArray).extract 0 2 = sAB := by kernel_rfl
      have hI : InV w wr.heap.size S (.slice none 0 0) [] 0 (wr.iter sAB 0) := ⟨HV.out.alloc _, RowIs.nil _ _, World.iter_heap wr sAB 0, fun q hq k e => ((HV.out.nx.2.1 q hq).block e).2.1, HV.out.bel.size, HV.out.mp.lt⟩
      have HI0 := Lib.hid hI
      clear hI
      obtain ⟨w0, hw0⟩ : ∃ X, X = wr := ⟨_, rfl⟩
      subst hw0
      go_wp2
      have HB0 := Lib.hid (show w0.heap.size = w0.heap.size from rfl)
      generalize hBe : w0.heap.size = B at HI0 ⊢
      generalize w0.iter sAB 0 = Wi at HI0 ⊢
      clear HV m0
      go_loopw [8] (fun v8 wr => ∃ (pos : Nat) (S1 : MacS) (v : Value), pos ≤ 2 ∧ v = v8 ∧ S1.mB = w.heap.size + 1 ∧ S1.tB = w.heap.size + 1 + 1 ∧ S1.ps = S.ps ∧ S1.v2 = S.v2 ∧ S1.ss = allS.take (kN 0 pos) ∧ S1.n = kN 0 pos ∧ S1.D = dOf (kN 0 pos) ∧ Hid (InV w B S1 v ((allR.getD 0 []).take pos) pos wr)) (fun _ wr => 2 - wr.iterPos B)
      case atStart => exact ⟨0, S, _, by omega, rfl, hmB, htB, rfl, rfl, hss, hn, hD, HI0⟩
      case round =>
        obtain ⟨pos, S1, v, hpos, rfl, hmB1, htB1, hps1, hv21, hss1, hn1, hD1, HI⟩ := hrel
        have hI0 := HI.out.it
        obtain ⟨mB1, tB1, v11, v21, ss1, ps1, n1, D1⟩ := S1
        dsimp only at hmB1 htB1 hps1 hv21 hss1 hn1 hD1
        subst hmB1 htB1 hps1 hv21 hss1 hn1 hD1
        obtain rfl | rfl | rfl : pos = 0 ∨ pos = 1 ∨ pos = 2 := by omega
        · -- 0 0
          have hnx : ∀ ty, (Instr.next (.pointer (some ⟨B, 0, none⟩)) true ty).run Try.prog wr = .ok (.tuple #[.bool true, .int .i64 0, .int .i32 97]) (wr.putObj B (.stringIter sAB 1)) := fun ty => (run_next_at wr B sAB 0 ty HI.out.it (by decide)).trans (by rw [show Utf8.decode sAB 0 = (97, 1) by kernel_rfl]; rfl)
          have HI1 := Lib.hid (HI.out.step 1)
          clear HI
          generalize wr.putObj B (.stringIter sAB 1) = W1 at hnx HI1
          obtain ⟨g1, c1, hv1, hc1⟩ := HI1.out.mac.form (by simp [allS, kN])
          rw [show (List.take (kN 0 0) allS).length = 1 from rfl] at hv1
          subst hv1
          have m1 := HI1.out.mac.m.cell 1
          simp only [List.getElem?_toArray, List.getElem?_cons_zero, List.getElem?_cons_succ] at m1
          have hci : W1.cell? ⟨g1, 0, none⟩ = some (.string ⟨#[]⟩) := hc1 0 (show 0 < 1 by decide)
          have GM1 := Lib.hid (HM.out.below HI1.out.mac.bel)
          have SA1 := Lib.hid (HS.out.below HI1.out.mac.bel)
          have hen : Utf8.encode 97 = (⟨#[97]⟩ : ByteArray) := by kernel_rfl
          have hcat : (⟨#[]⟩ : ByteArray) ++ (⟨#[97]⟩ : ByteArray) = ⟨#[97]⟩ := by kernel_rfl
          clear hc1
          have hhas : Maps.has (dOf 1) (.string (⟨#[97]⟩ : ByteArray).data.toList) = false := by kernel_rfl
          have hxs : (⟨#[97]⟩ : ByteArray).extract 0 1 = ⟨#[97]⟩ := by kernel_rfl
          go_wp2_with (first
            | (go_at_call 156; refine (avoids_any ⟨#[97]⟩ true ad c _ hsp (by decide) GM1.out SA1.out (by kernel_rfl)).mono ?_; rintro e w2 ⟨rfl, hb⟩; have HV2 := Lib.hid (HI1.out.below hb); clear hb; have m2 := HV2.out.mac.m.cell 1; simp only [List.getElem?_toArray, List.getElem?_cons_zero, List.getElem?_cons_succ] at m2)
            | (at_lookup; (refine wpList_lookup_own_ok_int _ rfl _ _ 193 rfl 9 3 .i64 (Maps.string_keyed Try.underlying9) under193 Try.underlying3 (zero3T _) (w.heap.size + 1 + 1) _ (dOf 1) rfl HV2.out.mac.mp _ _ rfl (WideMaps.keyOf_string_mk (s := ⟨#[97]⟩) Try.underlying9 (by decide)) ?_); intro cc hat hwc; rw [hhas]; clear hat hwc)
            | (at_mapUpdate; (refine wpList_mapUpdate_own _ rfl _ _ _ 193 rfl 9 3 (Maps.string_keyed Try.underlying9) under193 _ (w.heap.size + 1 + 1) (kN 0 0) (dOf 1) rfl HV2.out.mac.mp (by decide) (.string ⟨#[97]⟩) (.int .i64 1) _ rfl rfl (WideMaps.keyOf_string_mk (s := ⟨#[97]⟩) Try.underlying9 (by decide)) _ [] (plainElem_int Try.underlying3 (by decide)) ?_); intro w3 ho3 hg3; have HV3 := Lib.hid (HV2.out.entry ho3 hg3); have m3 := HV3.out.mac.m.cell 1; simp only [List.getElem?_toArray, List.getElem?_cons_zero, List.getElem?_cons_succ] at m3; clear ho3 hg3 m2)
            | ((with_reducible refine gate_builtin (b := .append) (xs := #[.tmp 78, .tmp 80]) rfl ?_); at_builtin; (refine wpList_append1 _ rfl (.tmp 78) (.tmp 80) 96 rfl w.heap.size 9 (.string ⟨#[]⟩) 16 under96 info9 rfl (by decide) _ 1 _ rfl (HV3.out.alloc _).mac.st _ _ (.string ⟨#[97]⟩) rfl (newCellQ _ _ 9 (.string ⟨#[97]⟩) (by simp)) rfl (by decide) (HV3.out.alloc (.cells #[.string ⟨#[97]⟩] 9)).mac.bel.size ?_); intro v4 w4 ho4 hg4; obtain ⟨A4, k4, rfl⟩ := own_formG ho4; have hw4 := (HV3.out.alloc (.cells #[.string ⟨#[97]⟩] 9)).whole hg4; have f4 := hw4.frozen 1; have m4 := hw4.cell 1; simp only [List.getElem?_toArray, List.getElem?_cons_zero, List.getElem?_cons_succ] at m4; have HV4 := Lib.hid ((HV3.out.alloc (.cells #[.string ⟨#[97]⟩] 9)).states ho4 hg4); clear ho4 hg4 hw4)
            | ((with_reducible refine gate_builtin (b := .append) (xs := #[.tmp 84, .tmp 86]) rfl ?_); at_builtin; (refine wpList_append1 _ rfl (.tmp 84) (.tmp 86) 39 rfl B 3 (.int .i64 0) 8 Try.underlying39 info3 rfl (by decide) v 0 _ rfl (HV4.out.alloc _).row _ _ (.int .i64 1) rfl (newCellQ _ _ 3 (.int .i64 1) (by simp)) rfl (by decide) (Nat.le_of_lt (HV4.out.alloc (.cells #[.int .i64 1] 3)).lt) ?_); intro v5 w5 ho5 hg5; have HV5 := Lib.hid ((HV4.out.alloc _).append ho5 hg5); clear ho5 hg5))
          exact ⟨⟨1, by omega, stI HV5, rfl, rfl, rfl, rfl, rfl, rfl, rfl, HV5⟩, by simp [World.iterPos, HV5.out.it, hI0]⟩
        · -- 0 1
          have hnx : ∀ ty, (Instr.next (.pointer (some ⟨B, 0, none⟩)) true ty).run Try.prog wr = .ok (.tuple #[.bool true, .int .i64 1, .int .i32 98]) (wr.putObj B (.stringIter sAB 2)) := fun ty => (run_next_at wr B sAB 1 ty HI.out.it (by decide)).trans (by rw [show Utf8.decode sAB 1 = (98, 1) by kernel_rfl]; rfl)
          have HI1 := Lib.hid (HI.out.step 2)
          clear HI
          generalize wr.putObj B (.stringIter sAB 2) = W1 at hnx HI1
          obtain ⟨g1, c1, hv1, hc1⟩ := HI1.out.mac.form (by simp [allS, kN])
          rw [show (List.take (kN 0 1) allS).length = 2 from rfl] at hv1
          subst hv1
          have m1 := HI1.out.mac.m.cell 1
          simp only [List.getElem?_toArray, List.getElem?_cons_zero, List.getElem?_cons_succ] at m1
          have hci : W1.cell? ⟨g1, 0, none⟩ = some (.string ⟨#[]⟩) := hc1 0 (show 0 < 2 by decide)
          have GM1 := Lib.hid (HM.out.below HI1.out.mac.bel)
          have SA1 := Lib.hid (HS.out.below HI1.out.mac.bel)
          have hen : Utf8.encode 98 = (⟨#[98]⟩ : ByteArray) := by kernel_rfl
          have hcat : (⟨#[]⟩ : ByteArray) ++ (⟨#[98]⟩ : ByteArray) = ⟨#[98]⟩ := by kernel_rfl
          clear hc1
          have hhas : Maps.has (dOf 2) (.string (⟨#[98]⟩ : ByteArray).data.toList) = false := by kernel_rfl
          have hxs : (⟨#[98]⟩ : ByteArray).extract 0 1 = ⟨#[98]⟩ := by kernel_rfl
          go_wp2_with (first
            | (go_at_call 156; refine (avoids_any ⟨#[98]⟩ true ad c _ hsp (by decide) GM1.out SA1.out (by kernel_rfl)).mono ?_; rintro e w2 ⟨rfl, hb⟩; have HV2 := Lib.hid (HI1.out.below hb); clear hb; have m2 := HV2.out.mac.m.cell 1; simp only [List.getElem?_toArray, List.getElem?_cons_zero, List.getElem?_cons_succ] at m2)
            | (at_lookup; (refine wpList_lookup_own_ok_int _ rfl _ _ 193 rfl 9 3 .i64 (Maps.string_keyed Try.underlying9) under193 Try.underlying3 (zero3T _) (w.heap.size + 1 + 1) _ (dOf 2) rfl HV2.out.mac.mp _ _ rfl (WideMaps.keyOf_string_mk (s := ⟨#[98]⟩) Try.underlying9 (by decide)) ?_); intro cc hat hwc; rw [hhas]; clear hat hwc)
            | (at_mapUpdate; (refine wpList_mapUpdate_own _ rfl _ _ _ 193 rfl 9 3 (Maps.string_keyed Try.underlying9) under193 _ (w.heap.size + 1 + 1) (kN 0 1) (dOf 2) rfl HV2.out.mac.mp (by decide) (.string ⟨#[98]⟩) (.int .i64 2) _ rfl rfl (WideMaps.keyOf_string_mk (s := ⟨#[98]⟩) Try.underlying9 (by decide)) _ [] (plainElem_int Try.underlying3 (by decide)) ?_); intro w3 ho3 hg3; have HV3 := Lib.hid (HV2.out.entry ho3 hg3); have m3 := HV3.out.mac.m.cell 1; simp only [List.getElem?_toArray, List.getElem?_cons_zero, List.getElem?_cons_succ] at m3; clear ho3 hg3 m2)
            | ((with_reducible refine gate_builtin (b := .append) (xs := #[.tmp 78, .tmp 80]) rfl ?_); at_builtin; (refine wpList_append1 _ rfl (.tmp 78) (.tmp 80) 96 rfl w.heap.size 9 (.string ⟨#[]⟩) 16 under96 info9 rfl (by decide) _ 2 _ rfl (HV3.out.alloc _).mac.st _ _ (.string ⟨#[98]⟩) rfl (newCellQ _ _ 9 (.string ⟨#[98]⟩) (by simp)) rfl (by decide) (HV3.out.alloc (.cells #[.string ⟨#[98]⟩] 9)).mac.bel.size ?_); intro v4 w4 ho4 hg4; obtain ⟨A4, k4, rfl⟩ := own_formG ho4; have hw4 := (HV3.out.alloc (.cells #[.string ⟨#[98]⟩] 9)).whole hg4; have f4 := hw4.frozen 1; have m4 := hw4.cell 1; simp only [List.getElem?_toArray, List.getElem?_cons_zero, List.getElem?_cons_succ] at m4; have HV4 := Lib.hid ((HV3.out.alloc (.cells #[.string ⟨#[98]⟩] 9)).states ho4 hg4); clear ho4 hg4 hw4)
            | ((with_reducible refine gate_builtin (b := .append) (xs := #[.tmp 84, .tmp 86]) rfl ?_); at_builtin; (refine wpList_append1 _ rfl (.tmp 84) (.tmp 86) 39 rfl B 3 (.int .i64 0) 8 Try.underlying39 info3 rfl (by decide) v 1 _ rfl (HV4.out.alloc _).row _ _ (.int .i64 2) rfl (newCellQ _ _ 3 (.int .i64 2) (by simp)) rfl (by decide) (Nat.le_of_lt (HV4.out.alloc (.cells #[.int .i64 2] 3)).lt) ?_); intro v5 w5 ho5 hg5; have HV5 := Lib.hid ((HV4.out.alloc _).append ho5 hg5); clear ho5 hg5))
          exact ⟨⟨2, by omega, stI HV5, rfl, rfl, rfl, rfl, rfl, rfl, rfl, HV5⟩, by simp [World.iterPos, HV5.out.it, hI0]⟩
        · -- end of 0
          have hnx : ∀ ty, (Instr.next (.pointer (some ⟨B, 0, none⟩)) true ty).run Try.prog wr = .ok (.tuple #[.bool false]) wr := fun ty => run_next_over wr B sAB 2 ty HI.out.it (by decide)
          have hpl : S.ps.length = 0 := by have := congrArg List.length hps; simpa [allR] using this
          obtain ⟨g1, c1, rfl⟩ := HI.out.row.form (by simp [allR])
          rw [show (List.take 2 (allR.getD 0 [])).length = 2 from rfl] at HI
          obtain ⟨A2, c2, hv2⟩ := own_formG HI.out.mac.nx.1
          rw [hpl] at hv2
          have m2 := HI.out.mac.m.cell 2
          simp only [List.getElem?_toArray, List.getElem?_cons_zero, List.getElem?_cons_succ] at m2
          rw [hv2] at m2
          have HP := Lib.hid HI.out.parted
          have HPL := Lib.hid hpl
          have HPS := Lib.hid hps
          have HV2 := Lib.hid hv2
          clear hpl hps hv2
          go_wp2_with ((with_reducible refine gate_builtin (b := .append) (xs := #[.tmp 92, .tmp 94]) rfl ?_); at_builtin; (refine wpList_append1 _ rfl (.tmp 92) (.tmp 94) 72 rfl w.heap.size 39 (.slice none 0 0) 24 under72 info39 rfl (by decide) S.v2 S.ps.length _ (by rw [HV2.out]; rfl) (HI.out.mac.alloc _).nx.1 _ _ (.slice (some ⟨g1, 0, none⟩) 2 c1) rfl (newCellQ _ _ 39 _ rfl) rfl (by rw [HPL.out]; decide) (HI.out.mac.alloc (.cells #[.slice (some ⟨g1, 0, none⟩) 2 c1] 39)).bel.size ?_); intro v4 w4 ho4 hg4; obtain ⟨A4, k4, rfl⟩ := own_formG ho4; have hw4 := (HI.out.mac.alloc (.cells #[.slice (some ⟨g1, 0, none⟩) 2 c1] 39)).wholeN hg4; have f4 := hw4.frozen 2; have m4 := hw4.cell 2; simp only [List.getElem?_toArray, List.getElem?_cons_zero, List.getElem?_cons_succ] at m4; have HV4 := Lib.hid ((HI.out.mac.alloc (.cells #[.slice (some ⟨g1, 0, none⟩) 2 c1] 39)).rows (q := (.slice (some ⟨g1, 0, none⟩) 2 c1, (allR.getD 0 []).take 2)) ho4 hg4 ((HI.out.row.alloc _).mono HI.out.low.1) HP.out); clear ho4 hg4 hw4)
          exact ⟨⟨1, stM HV4, by omega, rfl, rfl, rfl, rfl, (by show List.map Prod.snd (S.ps ++ [_]) = _; rw [List.map_append, HPS.out]; rfl), rfl, rfl, HV4⟩, by simp [intOf]⟩
    · -- 1
      obtain ⟨g0, c0, hv0, hc0⟩ := HV.out.form (by rw [hss]; simp [allS, stN])
      have hlen0 : S.ss.length = 3 := by rw [hss]; rfl
      have m0 := HV.out.m.cell 1
      simp only [List.getElem?_toArray, List.getElem?_cons_zero, List.getElem?_cons_succ] at m0
      rw [hlen0] at hv0
      rw [hmB, hv0] at m0
      clear hc0
      have hex : (⟨#[97, 98, 99]⟩ : ByteArray).extract 0 2 = sAB := by kernel_rfl
      have hI : InV w wr.heap.size S (.slice none 0 0) [] 0 (wr.iter sAB 0) := ⟨HV.out.alloc _, RowIs.nil _ _, World.iter_heap wr sAB 0, fun q hq k e => ((HV.out.nx.2.1 q hq).block e).2.1, HV.out.bel.size, HV.out.mp.lt⟩
      have HI0 := Lib.hid hI
      clear hI
      obtain ⟨w0, hw0⟩ : ∃ X, X = wr := ⟨_, rfl⟩
      subst hw0
      go_wp2
      have HB0 := Lib.hid (show w0.heap.size = w0.heap.size from rfl)
      generalize hBe : w0.heap.size = B at HI0 ⊢
      generalize w0.iter sAB 0 = Wi at HI0 ⊢
      clear HV m0
      go_loopw [8] (fun v8 wr => ∃ (pos : Nat) (S1 : MacS) (v : Value), pos ≤ 2 ∧ v = v8 ∧ S1.mB = w.heap.size + 1 ∧ S1.tB = w.heap.size + 1 + 1 ∧ S1.ps = S.ps ∧ S1.v2 = S.v2 ∧ S1.ss = allS.take (kN 1 pos) ∧ S1.n = kN 1 pos ∧ S1.D = dOf (kN 1 pos) ∧ Hid (InV w B S1 v ((allR.getD 1 []).take pos) pos wr)) (fun _ wr => 2 - wr.iterPos B)
      case atStart => exact ⟨0, S, _, by omega, rfl, hmB, htB, rfl, rfl, hss, hn, hD, HI0⟩
      case round =>
        obtain ⟨pos, S1, v, hpos, rfl, hmB1, htB1, hps1, hv21, hss1, hn1, hD1, HI⟩ := hrel
        have hI0 := HI.out.it
        obtain ⟨mB1, tB1, v11, v21, ss1, ps1, n1, D1⟩ := S1
        dsimp only at hmB1 htB1 hps1 hv21 hss1 hn1 hD1
        subst hmB1 htB1 hps1 hv21 hss1 hn1 hD1
        obtain rfl | rfl | rfl : pos = 0 ∨ pos = 1 ∨ pos = 2 := by omega
        · -- 1 0
          have hnx : ∀ ty, (Instr.next (.pointer (some ⟨B, 0, none⟩)) true ty).run Try.prog wr = .ok (.tuple #[.bool true, .int .i64 0, .int .i32 97]) (wr.putObj B (.stringIter sAB 1)) := fun ty => (run_next_at wr B sAB 0 ty HI.out.it (by decide)).trans (by rw [show Utf8.decode sAB 0 = (97, 1) by kernel_rfl]; rfl)
          have HI1 := Lib.hid (HI.out.step 1)
          clear HI
          generalize wr.putObj B (.stringIter sAB 1) = W1 at hnx HI1
          obtain ⟨g1, c1, hv1, hc1⟩ := HI1.out.mac.form (by simp [allS, kN])
          rw [show (List.take (kN 1 0) allS).length = 3 from rfl] at hv1
          subst hv1
          have m1 := HI1.out.mac.m.cell 1
          simp only [List.getElem?_toArray, List.getElem?_cons_zero, List.getElem?_cons_succ] at m1
          have hci : W1.cell? ⟨g1, 1, none⟩ = some (.string ⟨#[97]⟩) := hc1 1 (show 1 < 3 by decide)
          have GM1 := Lib.hid (HM.out.below HI1.out.mac.bel)
          have SA1 := Lib.hid (HS.out.below HI1.out.mac.bel)
          have hen : Utf8.encode 97 = (⟨#[97]⟩ : ByteArray) := by kernel_rfl
          have hcat : (⟨#[97]⟩ : ByteArray) ++ (⟨#[97]⟩ : ByteArray) = ⟨#[97, 97]⟩ := by kernel_rfl
          clear hc1
          go_wp2_with (first
            | (go_at_call 156; refine (avoids_any ⟨#[97, 97]⟩ false ad c _ hsp (by decide) GM1.out SA1.out (by kernel_rfl)).mono ?_; rintro e w2 ⟨rfl, hb⟩; have HV2 := Lib.hid (HI1.out.below hb); clear hb)
            | ((with_reducible refine gate_builtin (b := .append) (xs := #[.tmp 49, .tmp 50]) rfl ?_); at_builtin; (refine wpList_append1 _ rfl (.tmp 49) (.tmp 50) 39 rfl B 3 (.int .i64 0) 8 Try.underlying39 info3 rfl (by decide) v 0 _ rfl (HV2.out.alloc _).row _ _ (.int .i64 (-1)) rfl (newCellQ _ _ 3 (.int .i64 (-1)) (by simp)) rfl (by decide) (Nat.le_of_lt (HV2.out.alloc (.cells #[.int .i64 (-1)] 3)).lt) ?_); intro v5 w5 ho5 hg5; have HV5 := Lib.hid ((HV2.out.alloc _).append ho5 hg5); clear ho5 hg5))
          refine ⟨?_, by simp [World.iterPos, HV5.out.it, hI0]⟩
          repeat (first | (exact ⟨⟨1, stI HV5, v5, by omega, rfl, rfl, rfl, rfl, rfl, rfl, rfl, rfl, HV5⟩, rfl⟩) | apply Exists.intro)
        · -- 1 1
          have hnx : ∀ ty, (Instr.next (.pointer (some ⟨B, 0, none⟩)) true ty).run Try.prog wr = .ok (.tuple #[.bool true, .int .i64 1, .int .i32 98]) (wr.putObj B (.stringIter sAB 2)) := fun ty => (run_next_at wr B sAB 1 ty HI.out.it (by decide)).trans (by rw [show Utf8.decode sAB 1 = (98, 1) by kernel_rfl]; rfl)
          have HI1 := Lib.hid (HI.out.step 2)
          clear HI
          generalize wr.putObj B (.stringIter sAB 2) = W1 at hnx HI1
          obtain ⟨g1, c1, hv1, hc1⟩ := HI1.out.mac.form (by simp [allS, kN])
          rw [show (List.take (kN 1 1) allS).length = 3 from rfl] at hv1
          subst hv1
          have m1 := HI1.out.mac.m.cell 1
          simp only [List.getElem?_toArray, List.getElem?_cons_zero, List.getElem?_cons_succ] at m1
          have hci : W1.cell? ⟨g1, 1, none⟩ = some (.string ⟨#[97]⟩) := hc1 1 (show 1 < 3 by decide)
          have GM1 := Lib.hid (HM.out.below HI1.out.mac.bel)
          have SA1 := Lib.hid (HS.out.below HI1.out.mac.bel)
          have hen : Utf8.encode 98 = (⟨#[98]⟩ : ByteArray) := by kernel_rfl
          have hcat : (⟨#[97]⟩ : ByteArray) ++ (⟨#[98]⟩ : ByteArray) = ⟨#[97, 98]⟩ := by kernel_rfl
          clear hc1
          go_wp2_with (first
            | (go_at_call 156; refine (avoids_any ⟨#[97, 98]⟩ false ad c _ hsp (by decide) GM1.out SA1.out (by kernel_rfl)).mono ?_; rintro e w2 ⟨rfl, hb⟩; have HV2 := Lib.hid (HI1.out.below hb); clear hb)
            | ((with_reducible refine gate_builtin (b := .append) (xs := #[.tmp 49, .tmp 50]) rfl ?_); at_builtin; (refine wpList_append1 _ rfl (.tmp 49) (.tmp 50) 39 rfl B 3 (.int .i64 0) 8 Try.underlying39 info3 rfl (by decide) v 1 _ rfl (HV2.out.alloc _).row _ _ (.int .i64 (-1)) rfl (newCellQ _ _ 3 (.int .i64 (-1)) (by simp)) rfl (by decide) (Nat.le_of_lt (HV2.out.alloc (.cells #[.int .i64 (-1)] 3)).lt) ?_); intro v5 w5 ho5 hg5; have HV5 := Lib.hid ((HV2.out.alloc _).append ho5 hg5); clear ho5 hg5))
          refine ⟨?_, by simp [World.iterPos, HV5.out.it, hI0]⟩
          repeat (first | (exact ⟨⟨2, stI HV5, v5, by omega, rfl, rfl, rfl, rfl, rfl, rfl, rfl, rfl, HV5⟩, rfl⟩) | apply Exists.intro)
        · -- end of 1
          have hnx : ∀ ty, (Instr.next (.pointer (some ⟨B, 0, none⟩)) true ty).run Try.prog wr = .ok (.tuple #[.bool false]) wr := fun ty => run_next_over wr B sAB 2 ty HI.out.it (by decide)
          have hpl : S.ps.length = 1 := by have := congrArg List.length hps; simpa [allR] using this
          obtain ⟨g1, c1, rfl⟩ := HI.out.row.form (by simp [allR])
          rw [show (List.take 2 (allR.getD 1 [])).length = 2 from rfl] at HI
          obtain ⟨A2, c2, hv2⟩ := own_formG HI.out.mac.nx.1
          rw [hpl] at hv2
          have m2 := HI.out.mac.m.cell 2
          simp only [List.getElem?_toArray, List.getElem?_cons_zero, List.getElem?_cons_succ] at m2
          rw [hv2] at m2
          have HP := Lib.hid HI.out.parted
          have HPL := Lib.hid hpl
          have HPS := Lib.hid hps
          have HV2 := Lib.hid hv2
          clear hpl hps hv2
          go_wp2_with ((with_reducible refine gate_builtin (b := .append) (xs := #[.tmp 92, .tmp 94]) rfl ?_); at_builtin; (refine wpList_append1 _ rfl (.tmp 92) (.tmp 94) 72 rfl w.heap.size 39 (.slice none 0 0) 24 under72 info39 rfl (by decide) S.v2 S.ps.length _ (by rw [HV2.out]; rfl) (HI.out.mac.alloc _).nx.1 _ _ (.slice (some ⟨g1, 0, none⟩) 2 c1) rfl (newCellQ _ _ 39 _ rfl) rfl (by rw [HPL.out]; decide) (HI.out.mac.alloc (.cells #[.slice (some ⟨g1, 0, none⟩) 2 c1] 39)).bel.size ?_); intro v4 w4 ho4 hg4; obtain ⟨A4, k4, rfl⟩ := own_formG ho4; have hw4 := (HI.out.mac.alloc (.cells #[.slice (some ⟨g1, 0, none⟩) 2 c1] 39)).wholeN hg4; have f4 := hw4.frozen 2; have m4 := hw4.cell 2; simp only [List.getElem?_toArray, List.getElem?_cons_zero, List.getElem?_cons_succ] at m4; have HV4 := Lib.hid ((HI.out.mac.alloc (.cells #[.slice (some ⟨g1, 0, none⟩) 2 c1] 39)).rows (q := (.slice (some ⟨g1, 0, none⟩) 2 c1, (allR.getD 1 []).take 2)) ho4 hg4 ((HI.out.row.alloc _).mono HI.out.low.1) HP.out); clear ho4 hg4 hw4)
          exact ⟨⟨2, stM HV4, by omega, rfl, rfl, rfl, rfl, (by show List.map Prod.snd (S.ps ++ [_]) = _; rw [List.map_append, HPS.out]; rfl), rfl, rfl, HV4⟩, by simp [intOf]⟩
    · -- 2
      obtain ⟨g0, c0, hv0, hc0⟩ := HV.out.form (by rw [hss]; simp [allS, stN])
      have hlen0 : S.ss.length = 3 := by rw [hss]; rfl
      have m0 := HV.out.m.cell 1
      simp only [List.getElem?_toArray, List.getElem?_cons_zero, List.getElem?_cons_succ] at m0
      rw [hlen0] at hv0
      rw [hmB, hv0] at m0
      clear hc0
      have hex : (⟨#[97, 98, 99]⟩ : ByteArray).extract 0 2 = sAB := by kernel_rfl
      have hI : InV w wr.heap.size S (.slice none 0 0) [] 0 (wr.iter sAB 0) := ⟨HV.out.alloc _, RowIs.nil _ _, World.iter_heap wr sAB 0, fun q hq k e => ((HV.out.nx.2.1 q hq).block e).2.1, HV.out.bel.size, HV.out.mp.lt⟩
      have HI0 := Lib.hid hI
      clear hI
      obtain ⟨w0, hw0⟩ : ∃ X, X = wr := ⟨_, rfl⟩
      subst hw0
      go_wp2
      have HB0 := Lib.hid (show w0.heap.size = w0.heap.size from rfl)
      generalize hBe : w0.heap.size = B at HI0 ⊢
      generalize w0.iter sAB 0 = Wi at HI0 ⊢
      clear HV m0
      go_loopw [8] (fun v8 wr => ∃ (pos : Nat) (S1 : MacS) (v : Value), pos ≤ 2 ∧ v = v8 ∧ S1.mB = w.heap.size + 1 ∧ S1.tB = w.heap.size + 1 + 1 ∧ S1.ps = S.ps ∧ S1.v2 = S.v2 ∧ S1.ss = allS.take (kN 2 pos) ∧ S1.n = kN 2 pos ∧ S1.D = dOf (kN 2 pos) ∧ Hid (InV w B S1 v ((allR.getD 2 []).take pos) pos wr)) (fun _ wr => 2 - wr.iterPos B)
      case atStart => exact ⟨0, S, _, by omega, rfl, hmB, htB, rfl, rfl, hss, hn, hD, HI0⟩
      case round =>
        obtain ⟨pos, S1, v, hpos, rfl, hmB1, htB1, hps1, hv21, hss1, hn1, hD1, HI⟩ := hrel
        have hI0 := HI.out.it
        obtain ⟨mB1, tB1, v11, v21, ss1, ps1, n1, D1⟩ := S1
        dsimp only at hmB1 htB1 hps1 hv21 hss1 hn1 hD1
        subst hmB1 htB1 hps1 hv21 hss1 hn1 hD1
        obtain rfl | rfl | rfl : pos = 0 ∨ pos = 1 ∨ pos = 2 := by omega
        · -- 2 0
          have hnx : ∀ ty, (Instr.next (.pointer (some ⟨B, 0, none⟩)) true ty).run Try.prog wr = .ok (.tuple #[.bool true, .int .i64 0, .int .i32 97]) (wr.putObj B (.stringIter sAB 1)) := fun ty => (run_next_at wr B sAB 0 ty HI.out.it (by decide)).trans (by rw [show Utf8.decode sAB 0 = (97, 1) by kernel_rfl]; rfl)
          have HI1 := Lib.hid (HI.out.step 1)
          clear HI
          generalize wr.putObj B (.stringIter sAB 1) = W1 at hnx HI1
          obtain ⟨g1, c1, hv1, hc1⟩ := HI1.out.mac.form (by simp [allS, kN])
          rw [show (List.take (kN 2 0) allS).length = 3 from rfl] at hv1
          subst hv1
          have m1 := HI1.out.mac.m.cell 1
          simp only [List.getElem?_toArray, List.getElem?_cons_zero, List.getElem?_cons_succ] at m1
          have hci : W1.cell? ⟨g1, 2, none⟩ = some (.string ⟨#[98]⟩) := hc1 2 (show 2 < 3 by decide)
          have GM1 := Lib.hid (HM.out.below HI1.out.mac.bel)
          have SA1 := Lib.hid (HS.out.below HI1.out.mac.bel)
          have hen : Utf8.encode 97 = (⟨#[97]⟩ : ByteArray) := by kernel_rfl
          have hcat : (⟨#[98]⟩ : ByteArray) ++ (⟨#[97]⟩ : ByteArray) = ⟨#[98, 97]⟩ := by kernel_rfl
          clear hc1
          have hhas : Maps.has (dOf 3) (.string (⟨#[98, 97]⟩ : ByteArray).data.toList) = false := by kernel_rfl
          have hxs : (⟨#[98, 97]⟩ : ByteArray).extract 0 2 = ⟨#[98, 97]⟩ := by kernel_rfl
          go_wp2_with (first
            | (go_at_call 156; refine (avoids_any ⟨#[98, 97]⟩ true ad c _ hsp (by decide) GM1.out SA1.out (by kernel_rfl)).mono ?_; rintro e w2 ⟨rfl, hb⟩; have HV2 := Lib.hid (HI1.out.below hb); clear hb; have m2 := HV2.out.mac.m.cell 1; simp only [List.getElem?_toArray, List.getElem?_cons_zero, List.getElem?_cons_succ] at m2)
            | (at_lookup; (refine wpList_lookup_own_ok_int _ rfl _ _ 193 rfl 9 3 .i64 (Maps.string_keyed Try.underlying9) under193 Try.underlying3 (zero3T _) (w.heap.size + 1 + 1) _ (dOf 3) rfl HV2.out.mac.mp _ _ rfl (WideMaps.keyOf_string_mk (s := ⟨#[98, 97]⟩) Try.underlying9 (by decide)) ?_); intro cc hat hwc; rw [hhas]; clear hat hwc)
            | (at_mapUpdate; (refine wpList_mapUpdate_own _ rfl _ _ _ 193 rfl 9 3 (Maps.string_keyed Try.underlying9) under193 _ (w.heap.size + 1 + 1) (kN 2 0) (dOf 3) rfl HV2.out.mac.mp (by decide) (.string ⟨#[98, 97]⟩) (.int .i64 3) _ rfl rfl (WideMaps.keyOf_string_mk (s := ⟨#[98, 97]⟩) Try.underlying9 (by decide)) _ [] (plainElem_int Try.underlying3 (by decide)) ?_); intro w3 ho3 hg3; have HV3 := Lib.hid (HV2.out.entry ho3 hg3); have m3 := HV3.out.mac.m.cell 1; simp only [List.getElem?_toArray, List.getElem?_cons_zero, List.getElem?_cons_succ] at m3; clear ho3 hg3 m2)
            | ((with_reducible refine gate_builtin (b := .append) (xs := #[.tmp 78, .tmp 80]) rfl ?_); at_builtin; (refine wpList_append1 _ rfl (.tmp 78) (.tmp 80) 96 rfl w.heap.size 9 (.string ⟨#[]⟩) 16 under96 info9 rfl (by decide) _ 3 _ rfl (HV3.out.alloc _).mac.st _ _ (.string ⟨#[98, 97]⟩) rfl (newCellQ _ _ 9 (.string ⟨#[98, 97]⟩) (by simp)) rfl (by decide) (HV3.out.alloc (.cells #[.string ⟨#[98, 97]⟩] 9)).mac.bel.size ?_); intro v4 w4 ho4 hg4; obtain ⟨A4, k4, rfl⟩ := own_formG ho4; have hw4 := (HV3.out.alloc (.cells #[.string ⟨#[98, 97]⟩] 9)).whole hg4; have f4 := hw4.frozen 1; have m4 := hw4.cell 1; simp only [List.getElem?_toArray, List.getElem?_cons_zero, List.getElem?_cons_succ] at m4; have HV4 := Lib.hid ((HV3.out.alloc (.cells #[.string ⟨#[98, 97]⟩] 9)).states ho4 hg4); clear ho4 hg4 hw4)
            | ((with_reducible refine gate_builtin (b := .append) (xs := #[.tmp 84, .tmp 86]) rfl ?_); at_builtin; (refine wpList_append1 _ rfl (.tmp 84) (.tmp 86) 39 rfl B 3 (.int .i64 0) 8 Try.underlying39 info3 rfl (by decide) v 0 _ rfl (HV4.out.alloc _).row _ _ (.int .i64 3) rfl (newCellQ _ _ 3 (.int .i64 3) (by simp)) rfl (by decide) (Nat.le_of_lt (HV4.out.alloc (.cells #[.int .i64 3] 3)).lt) ?_); intro v5 w5 ho5 hg5; have HV5 := Lib.hid ((HV4.out.alloc _).append ho5 hg5); clear ho5 hg5))
          exact ⟨⟨1, by omega, stI HV5, rfl, rfl, rfl, rfl, rfl, rfl, rfl, HV5⟩, by simp [World.iterPos, HV5.out.it, hI0]⟩
        · -- 2 1
          have hnx : ∀ ty, (Instr.next (.pointer (some ⟨B, 0, none⟩)) true ty).run Try.prog wr = .ok (.tuple #[.bool true, .int .i64 1, .int .i32 98]) (wr.putObj B (.stringIter sAB 2)) := fun ty => (run_next_at wr B sAB 1 ty HI.out.it (by decide)).trans (by rw [show Utf8.decode sAB 1 = (98, 1) by kernel_rfl]; rfl)
          have HI1 := Lib.hid (HI.out.step 2)
          clear HI
          generalize wr.putObj B (.stringIter sAB 2) = W1 at hnx HI1
          obtain ⟨g1, c1, hv1, hc1⟩ := HI1.out.mac.form (by simp [allS, kN])
          rw [show (List.take (kN 2 1) allS).length = 4 from rfl] at hv1
          subst hv1
          have m1 := HI1.out.mac.m.cell 1
          simp only [List.getElem?_toArray, List.getElem?_cons_zero, List.getElem?_cons_succ] at m1
          have hci : W1.cell? ⟨g1, 2, none⟩ = some (.string ⟨#[98]⟩) := hc1 2 (show 2 < 4 by decide)
          have GM1 := Lib.hid (HM.out.below HI1.out.mac.bel)
          have SA1 := Lib.hid (HS.out.below HI1.out.mac.bel)
          have hen : Utf8.encode 98 = (⟨#[98]⟩ : ByteArray) := by kernel_rfl
          have hcat : (⟨#[98]⟩ : ByteArray) ++ (⟨#[98]⟩ : ByteArray) = ⟨#[98, 98]⟩ := by kernel_rfl
          clear hc1
          go_wp2_with (first
            | (go_at_call 156; refine (avoids_any ⟨#[98, 98]⟩ false ad c _ hsp (by decide) GM1.out SA1.out (by kernel_rfl)).mono ?_; rintro e w2 ⟨rfl, hb⟩; have HV2 := Lib.hid (HI1.out.below hb); clear hb)
            | ((with_reducible refine gate_builtin (b := .append) (xs := #[.tmp 49, .tmp 50]) rfl ?_); at_builtin; (refine wpList_append1 _ rfl (.tmp 49) (.tmp 50) 39 rfl B 3 (.int .i64 0) 8 Try.underlying39 info3 rfl (by decide) v 1 _ rfl (HV2.out.alloc _).row _ _ (.int .i64 (-1)) rfl (newCellQ _ _ 3 (.int .i64 (-1)) (by simp)) rfl (by decide) (Nat.le_of_lt (HV2.out.alloc (.cells #[.int .i64 (-1)] 3)).lt) ?_); intro v5 w5 ho5 hg5; have HV5 := Lib.hid ((HV2.out.alloc _).append ho5 hg5); clear ho5 hg5))
          refine ⟨?_, by simp [World.iterPos, HV5.out.it, hI0]⟩
          repeat (first | (exact ⟨⟨2, stI HV5, v5, by omega, rfl, rfl, rfl, rfl, rfl, rfl, rfl, rfl, HV5⟩, rfl⟩) | apply Exists.intro)
        · -- end of 2
          have hnx : ∀ ty, (Instr.next (.pointer (some ⟨B, 0, none⟩)) true ty).run Try.prog wr = .ok (.tuple #[.bool false]) wr := fun ty => run_next_over wr B sAB 2 ty HI.out.it (by decide)
          have hpl : S.ps.length = 2 := by have := congrArg List.length hps; simpa [allR] using this
          obtain ⟨g1, c1, rfl⟩ := HI.out.row.form (by simp [allR])
          rw [show (List.take 2 (allR.getD 2 [])).length = 2 from rfl] at HI
          obtain ⟨A2, c2, hv2⟩ := own_formG HI.out.mac.nx.1
          rw [hpl] at hv2
          have m2 := HI.out.mac.m.cell 2
          simp only [List.getElem?_toArray, List.getElem?_cons_zero, List.getElem?_cons_succ] at m2
          rw [hv2] at m2
          have HP := Lib.hid HI.out.parted
          have HPL := Lib.hid hpl
          have HPS := Lib.hid hps
          have HV2 := Lib.hid hv2
          clear hpl hps hv2
          go_wp2_with ((with_reducible refine gate_builtin (b := .append) (xs := #[.tmp 92, .tmp 94]) rfl ?_); at_builtin; (refine wpList_append1 _ rfl (.tmp 92) (.tmp 94) 72 rfl w.heap.size 39 (.slice none 0 0) 24 under72 info39 rfl (by decide) S.v2 S.ps.length _ (by rw [HV2.out]; rfl) (HI.out.mac.alloc _).nx.1 _ _ (.slice (some ⟨g1, 0, none⟩) 2 c1) rfl (newCellQ _ _ 39 _ rfl) rfl (by rw [HPL.out]; decide) (HI.out.mac.alloc (.cells #[.slice (some ⟨g1, 0, none⟩) 2 c1] 39)).bel.size ?_); intro v4 w4 ho4 hg4; obtain ⟨A4, k4, rfl⟩ := own_formG ho4; have hw4 := (HI.out.mac.alloc (.cells #[.slice (some ⟨g1, 0, none⟩) 2 c1] 39)).wholeN hg4; have f4 := hw4.frozen 2; have m4 := hw4.cell 2; simp only [List.getElem?_toArray, List.getElem?_cons_zero, List.getElem?_cons_succ] at m4; have HV4 := Lib.hid ((HI.out.mac.alloc (.cells #[.slice (some ⟨g1, 0, none⟩) 2 c1] 39)).rows (q := (.slice (some ⟨g1, 0, none⟩) 2 c1, (allR.getD 2 []).take 2)) ho4 hg4 ((HI.out.row.alloc _).mono HI.out.low.1) HP.out); clear ho4 hg4 hw4)
          exact ⟨⟨3, stM HV4, by omega, rfl, rfl, rfl, rfl, (by show List.map Prod.snd (S.ps ++ [_]) = _; rw [List.map_append, HPS.out]; rfl), rfl, rfl, HV4⟩, by simp [intOf]⟩
    · -- 3
      obtain ⟨g0, c0, hv0, hc0⟩ := HV.out.form (by rw [hss]; simp [allS, stN])
      have hlen0 : S.ss.length = 4 := by rw [hss]; rfl
      have m0 := HV.out.m.cell 1
      simp only [List.getElem?_toArray, List.getElem?_cons_zero, List.getElem?_cons_succ] at m0
      rw [hlen0] at hv0
      rw [hmB, hv0] at m0
      clear hc0
      have hex : (⟨#[97, 98, 99]⟩ : ByteArray).extract 0 2 = sAB := by kernel_rfl
      have hI : InV w wr.heap.size S (.slice none 0 0) [] 0 (wr.iter sAB 0) := ⟨HV.out.alloc _, RowIs.nil _ _, World.iter_heap wr sAB 0, fun q hq k e => ((HV.out.nx.2.1 q hq).block e).2.1, HV.out.bel.size, HV.out.mp.lt⟩
      have HI0 := Lib.hid hI
      clear hI
      obtain ⟨w0, hw0⟩ : ∃ X, X = wr := ⟨_, rfl⟩
      subst hw0
      go_wp2
      have HB0 := Lib.hid (show w0.heap.size = w0.heap.size from rfl)
      generalize hBe : w0.heap.size = B at HI0 ⊢
      generalize w0.iter sAB 0 = Wi at HI0 ⊢
      clear HV m0
      go_loopw [8] (fun v8 wr => ∃ (pos : Nat) (S1 : MacS) (v : Value), pos ≤ 2 ∧ v = v8 ∧ S1.mB = w.heap.size + 1 ∧ S1.tB = w.heap.size + 1 + 1 ∧ S1.ps = S.ps ∧ S1.v2 = S.v2 ∧ S1.ss = allS.take (kN 3 pos) ∧ S1.n = kN 3 pos ∧ S1.D = dOf (kN 3 pos) ∧ Hid (InV w B S1 v ((allR.getD 3 []).take pos) pos wr)) (fun _ wr => 2 - wr.iterPos B)
      case atStart => exact ⟨0, S, _, by omega, rfl, hmB, htB, rfl, rfl, hss, hn, hD, HI0⟩
      case round =>
        obtain ⟨pos, S1, v, hpos, rfl, hmB1, htB1, hps1, hv21, hss1, hn1, hD1, HI⟩ := hrel
        have hI0 := HI.out.it
        obtain ⟨mB1, tB1, v11, v21, ss1, ps1, n1, D1⟩ := S1
        dsimp only at hmB1 htB1 hps1 hv21 hss1 hn1 hD1
        subst hmB1 htB1 hps1 hv21 hss1 hn1 hD1
        obtain rfl | rfl | rfl : pos = 0 ∨ pos = 1 ∨ pos = 2 := by omega
        · -- 3 0
          have hnx : ∀ ty, (Instr.next (.pointer (some ⟨B, 0, none⟩)) true ty).run Try.prog wr = .ok (.tuple #[.bool true, .int .i64 0, .int .i32 97]) (wr.putObj B (.stringIter sAB 1)) := fun ty => (run_next_at wr B sAB 0 ty HI.out.it (by decide)).trans (by rw [show Utf8.decode sAB 0 = (97, 1) by kernel_rfl]; rfl)
          have HI1 := Lib.hid (HI.out.step 1)
          clear HI
          generalize wr.putObj B (.stringIter sAB 1) = W1 at hnx HI1
          obtain ⟨g1, c1, hv1, hc1⟩ := HI1.out.mac.form (by simp [allS, kN])
          rw [show (List.take (kN 3 0) allS).length = 4 from rfl] at hv1
          subst hv1
          have m1 := HI1.out.mac.m.cell 1
          simp only [List.getElem?_toArray, List.getElem?_cons_zero, List.getElem?_cons_succ] at m1
          have hci : W1.cell? ⟨g1, 3, none⟩ = some (.string ⟨#[98, 97]⟩) := hc1 3 (show 3 < 4 by decide)
          have GM1 := Lib.hid (HM.out.below HI1.out.mac.bel)
          have SA1 := Lib.hid (HS.out.below HI1.out.mac.bel)
          have hen : Utf8.encode 97 = (⟨#[97]⟩ : ByteArray) := by kernel_rfl
          have hcat : (⟨#[98, 97]⟩ : ByteArray) ++ (⟨#[97]⟩ : ByteArray) = ⟨#[98, 97, 97]⟩ := by kernel_rfl
          clear hc1
          go_wp2_with (first
            | (go_at_call 156; refine (avoids_any ⟨#[98, 97, 97]⟩ false ad c _ hsp (by decide) GM1.out SA1.out (by kernel_rfl)).mono ?_; rintro e w2 ⟨rfl, hb⟩; have HV2 := Lib.hid (HI1.out.below hb); clear hb)
            | ((with_reducible refine gate_builtin (b := .append) (xs := #[.tmp 49, .tmp 50]) rfl ?_); at_builtin; (refine wpList_append1 _ rfl (.tmp 49) (.tmp 50) 39 rfl B 3 (.int .i64 0) 8 Try.underlying39 info3 rfl (by decide) v 0 _ rfl (HV2.out.alloc _).row _ _ (.int .i64 (-1)) rfl (newCellQ _ _ 3 (.int .i64 (-1)) (by simp)) rfl (by decide) (Nat.le_of_lt (HV2.out.alloc (.cells #[.int .i64 (-1)] 3)).lt) ?_); intro v5 w5 ho5 hg5; have HV5 := Lib.hid ((HV2.out.alloc _).append ho5 hg5); clear ho5 hg5))
          refine ⟨?_, by simp [World.iterPos, HV5.out.it, hI0]⟩
          repeat (first | (exact ⟨⟨1, stI HV5, v5, by omega, rfl, rfl, rfl, rfl, rfl, rfl, rfl, rfl, HV5⟩, rfl⟩) | apply Exists.intro)
        · -- 3 1
          have hnx : ∀ ty, (Instr.next (.pointer (some ⟨B, 0, none⟩)) true ty).run Try.prog wr = .ok (.tuple #[.bool true, .int .i64 1, .int .i32 98]) (wr.putObj B (.stringIter sAB 2)) := fun ty => (run_next_at wr B sAB 1 ty HI.out.it (by decide)).trans (by rw [show Utf8.decode sAB 1 = (98, 1) by kernel_rfl]; rfl)
          have HI1 := Lib.hid (HI.out.step 2)
          clear HI
          generalize wr.putObj B (.stringIter sAB 2) = W1 at hnx HI1
          obtain ⟨g1, c1, hv1, hc1⟩ := HI1.out.mac.form (by simp [allS, kN])
          rw [show (List.take (kN 3 1) allS).length = 4 from rfl] at hv1
          subst hv1
          have m1 := HI1.out.mac.m.cell 1
          simp only [List.getElem?_toArray, List.getElem?_cons_zero, List.getElem?_cons_succ] at m1
          have hci : W1.cell? ⟨g1, 3, none⟩ = some (.string ⟨#[98, 97]⟩) := hc1 3 (show 3 < 4 by decide)
          have GM1 := Lib.hid (HM.out.below HI1.out.mac.bel)
          have SA1 := Lib.hid (HS.out.below HI1.out.mac.bel)
          have hen : Utf8.encode 98 = (⟨#[98]⟩ : ByteArray) := by kernel_rfl
          have hcat : (⟨#[98, 97]⟩ : ByteArray) ++ (⟨#[98]⟩ : ByteArray) = ⟨#[98, 97, 98]⟩ := by kernel_rfl
          clear hc1
          go_wp2_with (first
            | (go_at_call 156; refine (avoids_any ⟨#[98, 97, 98]⟩ false ad c _ hsp (by decide) GM1.out SA1.out (by kernel_rfl)).mono ?_; rintro e w2 ⟨rfl, hb⟩; have HV2 := Lib.hid (HI1.out.below hb); clear hb)
            | ((with_reducible refine gate_builtin (b := .append) (xs := #[.tmp 49, .tmp 50]) rfl ?_); at_builtin; (refine wpList_append1 _ rfl (.tmp 49) (.tmp 50) 39 rfl B 3 (.int .i64 0) 8 Try.underlying39 info3 rfl (by decide) v 1 _ rfl (HV2.out.alloc _).row _ _ (.int .i64 (-1)) rfl (newCellQ _ _ 3 (.int .i64 (-1)) (by simp)) rfl (by decide) (Nat.le_of_lt (HV2.out.alloc (.cells #[.int .i64 (-1)] 3)).lt) ?_); intro v5 w5 ho5 hg5; have HV5 := Lib.hid ((HV2.out.alloc _).append ho5 hg5); clear ho5 hg5))
          refine ⟨?_, by simp [World.iterPos, HV5.out.it, hI0]⟩
          repeat (first | (exact ⟨⟨2, stI HV5, v5, by omega, rfl, rfl, rfl, rfl, rfl, rfl, rfl, rfl, HV5⟩, rfl⟩) | apply Exists.intro)
        · -- end of 3
          have hnx : ∀ ty, (Instr.next (.pointer (some ⟨B, 0, none⟩)) true ty).run Try.prog wr = .ok (.tuple #[.bool false]) wr := fun ty => run_next_over wr B sAB 2 ty HI.out.it (by decide)
          have hpl : S.ps.length = 3 := by have := congrArg List.length hps; simpa [allR] using this
          obtain ⟨g1, c1, rfl⟩ := HI.out.row.form (by simp [allR])
          rw [show (List.take 2 (allR.getD 3 [])).length = 2 from rfl] at HI
          obtain ⟨A2, c2, hv2⟩ := own_formG HI.out.mac.nx.1
          rw [hpl] at hv2
          have m2 := HI.out.mac.m.cell 2
          simp only [List.getElem?_toArray, List.getElem?_cons_zero, List.getElem?_cons_succ] at m2
          rw [hv2] at m2
          have HP := Lib.hid HI.out.parted
          have HPL := Lib.hid hpl
          have HPS := Lib.hid hps
          have HV2 := Lib.hid hv2
          clear hpl hps hv2
          go_wp2_with ((with_reducible refine gate_builtin (b := .append) (xs := #[.tmp 92, .tmp 94]) rfl ?_); at_builtin; (refine wpList_append1 _ rfl (.tmp 92) (.tmp 94) 72 rfl w.heap.size 39 (.slice none 0 0) 24 under72 info39 rfl (by decide) S.v2 S.ps.length _ (by rw [HV2.out]; rfl) (HI.out.mac.alloc _).nx.1 _ _ (.slice (some ⟨g1, 0, none⟩) 2 c1) rfl (newCellQ _ _ 39 _ rfl) rfl (by rw [HPL.out]; decide) (HI.out.mac.alloc (.cells #[.slice (some ⟨g1, 0, none⟩) 2 c1] 39)).bel.size ?_); intro v4 w4 ho4 hg4; obtain ⟨A4, k4, rfl⟩ := own_formG ho4; have hw4 := (HI.out.mac.alloc (.cells #[.slice (some ⟨g1, 0, none⟩) 2 c1] 39)).wholeN hg4; have f4 := hw4.frozen 2; have m4 := hw4.cell 2; simp only [List.getElem?_toArray, List.getElem?_cons_zero, List.getElem?_cons_succ] at m4; have HV4 := Lib.hid ((HI.out.mac.alloc (.cells #[.slice (some ⟨g1, 0, none⟩) 2 c1] 39)).rows (q := (.slice (some ⟨g1, 0, none⟩) 2 c1, (allR.getD 3 []).take 2)) ho4 hg4 ((HI.out.row.alloc _).mono HI.out.low.1) HP.out); clear ho4 hg4 hw4)
          exact ⟨⟨4, stM HV4, by omega, rfl, rfl, rfl, rfl, (by show List.map Prod.snd (S.ps ++ [_]) = _; rw [List.map_append, HPS.out]; rfl), rfl, rfl, HV4⟩, by simp [intOf]⟩
    · -- 4
      obtain ⟨g0, c0, hv0, hc0⟩ := HV.out.form (by rw [hss]; simp [allS, stN])
      have hlen0 : S.ss.length = 4 := by rw [hss]; rfl
      have m0 := HV.out.m.cell 1
      simp only [List.getElem?_toArray, List.getElem?_cons_zero, List.getElem?_cons_succ] at m0
      rw [hlen0] at hv0
      rw [hmB, hv0] at m0
      clear hc0
      go_wp2
      go_ret
      exact ⟨S, by rw [hmB]; rfl, hss, hps, HV.out⟩
end Go.Proofs.Ytkefmlhkejoknaa.L
