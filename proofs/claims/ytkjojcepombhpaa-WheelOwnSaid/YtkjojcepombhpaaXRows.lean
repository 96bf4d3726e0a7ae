/- Rows of rows that a call makes itself. -/
import Derived.Test.YtkjojcepombhpaaXWhole
import Derived.Test.YtkjojcepombhpaaN4
import Derived.Laws.AppendOwnNone
namespace Go.Proofs.Ytkjojcepombhpaa.L
set_option linter.unusedVariables false
set_option linter.unusedSimpArgs false
open Go.RowKit Go.Shelf Go.Proofs.YtkjojcepombhpaaW.PrintWords Go.Proofs.YtkjojcepombhpaaW.PrintLast Go.Proofs.YtkjojcepombhpaaW.PrintMore

/-- Two rows that do not share memory. -/
def Parted (v u : Value) : Prop := ∀ k, v.ownBlock = some k → u.ownBlock ≠ some k
theorem Parted.symm {v u : Value} (h : Parted v u) : Parted u v := fun k e e2 => h k e2 e
/-- A list of rows of the call's own, from B on, each with its value, no two in one block. -/
def RowsIs (W : World) (B : Nat) (v : Value) (ps : List (Value × List Int)) : Prop :=
  W.ownsRow B 22 1 v ps.length (ps.map Prod.fst) ∧ (∀ q ∈ ps, RowIs W B q.1 q.2) ∧ ps.Pairwise fun a b => Parted a.1 b.1
theorem RowsIs.nil (W : World) (B : Nat) : RowsIs W B (.slice none 0 0) [] := ⟨⟨rfl, .inl ⟨rfl, rfl⟩⟩, by simp, List.Pairwise.nil⟩
section
variable {W W' : World} {B : Nat} {v u : Value} {ps qs : List (Value × List Int)} {xs : List Int} {row : Option Nat}
theorem RowsIs.block (h : RowsIs W B v ps) {k : Nat} (hk : v.ownBlock = some k) : B ≤ k ∧ k < W.heap.size ∧ ∃ cs, W.heap[k]? = some (.cells cs 22 (0, 0)) :=
  ⟨own_base h.1 k hk, own_lt h.1 k hk, own_typed h.1 k hk⟩
theorem RowIs.apart (hu : RowIs W B u xs) (h : RowsIs W B v ps) : u.ownBlock = none ∨ u.ownBlock ≠ v.ownBlock := by
  cases e : u.ownBlock with
  | none => exact .inl rfl
  | some k =>
    refine .inr (fun e2 => ?_)
    obtain ⟨_, _, cs, hc⟩ := h.block e2.symm
    have := hu.typed e hc
    exact absurd this (by decide)
/-- A block that is none of these rows has turned. -/
theorem RowsIs.kept (h : RowsIs W B v ps) (hg : W.grownBy W' row) (hne : ∀ k, row = some k → k < B ∨ ∃ o : Obj, W.heap[k]? = some o ∧ o.isCells = false) : RowsIs W' B v ps := by
  refine ⟨h.1.kept hg ?_, fun q hq => (h.2.1 q hq).kept hg ?_, h.2.2⟩
  · cases e : v.ownBlock with
    | none => exact .inl rfl
    | some k =>
      refine .inr (fun e2 => ?_)
      obtain ⟨b1, _, cs, hc⟩ := h.block e
      rcases hne k e2.symm with h1 | ⟨o, h1, h2⟩
      · omega
      · rw [hc] at h1; cases h1; cases h2
  · cases e : q.1.ownBlock with
    | none => exact .inl rfl
    | some k =>
      refine .inr (fun e2 => ?_)
      obtain ⟨b1, _, o', hc, hc2⟩ := (h.2.1 q hq).block e
      rcases hne k e2.symm with h1 | ⟨o, h1, h2⟩
      · omega
      · rw [hc] at h1; cases h1; rw [hc2] at h2; cases h2
theorem RowsIs.below (h : RowsIs W B v ps) (hb : Below W.heap.size W W') : RowsIs W' B v ps := h.kept (grown_of_below hb none) (fun k e => by cases e)
theorem RowIs.below (h : RowIs W B v xs) (hb : Below W.heap.size W W') : RowIs W' B v xs := h.own (grown_of_below hb none) (fun r e => by cases e)
theorem RowsIs.alloc (h : RowsIs W B v ps) (o : Obj) : RowsIs (W.alloc o) B v ps := h.kept (World.grownBy_alloc W o none) (fun k e => by cases e)
theorem RowsIs.form (h : RowsIs W B v ps) (hne : ps ≠ []) : ∃ g cap, v = .slice (some ⟨g, 0, none⟩) ps.length cap ∧ B ≤ g ∧ g < W.heap.size ∧ ps.length ≤ cap ∧ ∀ j u, (ps.map Prod.fst)[j]? = some u → W.cell? ((⟨g, 0, none⟩ : Addr).add j) = some u := by
  obtain ⟨h1, h2⟩ := h
  rcases h1.2 with ⟨_, h3⟩ | ⟨g, cap, cur, rfl, h3, h4, h5, _⟩
  · exact absurd (List.length_eq_zero_iff.1 h3) hne
  · exact ⟨g, cap, rfl, h3, (Array.getElem?_eq_some_iff.1 h4).1, h5, h1.cells rfl⟩
theorem RowsIs.mono {B' : Nat} (h : RowsIs W B v ps) (hb : B' ≤ B) : RowsIs W B' v ps := ⟨own_weaken h.1 hb, fun q hq => (h.2.1 q hq).mono hb, h.2.2⟩
/-- .. as it is handed back. -/
theorem RowsIs.S {base : Nat} (h : RowsIs W B v ps) (hb : base ≤ B) : Kd.S (Kd.slice 3 (Kd.int .i64)) 22 W base (fun _ => True) v (ps.map Prod.snd) := by
  refine ⟨fun k => ps.findIdx fun q => q.1.ownBlock == some k, fun _ _ => trivial, ps.map Prod.fst, ?_, ?_⟩
  · rw [List.length_zipIdx, List.length_map]
    exact own_weaken h.1 hb
  · refine ⟨by simp [Kd.slice, Kd.tag], fun j p hj => ?_⟩
    rw [List.getElem?_zipIdx, List.getElem?_map, Option.map_map, Option.map_eq_some_iff] at hj
    obtain ⟨q, hq, rfl⟩ := hj
    have hq2 := List.mem_of_getElem? hq
    obtain ⟨hlt, hqj⟩ := List.getElem?_eq_some_iff.1 hq
    have he : ((ps.map Prod.fst).drop (j * 1)).take 1 = [q.1] := by
      rw [Nat.mul_one, List.drop_eq_getElem_cons (by rw [List.length_map]; exact hlt)]
      simp [hqj]
    show ∃ v', ((ps.map Prod.fst).drop (j * 1)).take 1 = [v'] ∧ _
    refine ⟨q.1, he, Kd.R_of_own (own_weaken (h.2.1 q hq2) hb) (fun k hk => ⟨⟨trivial, fun e => ?_⟩, ?_⟩)⟩
    · rcases (h.2.1 q hq2).apart h with h1 | h1
      · rw [h1] at hk; cases hk
      · exact h1 (hk.trans e)
    · show ps.findIdx (fun q => q.1.ownBlock == some k) = 0 + j
      rw [Nat.zero_add, List.findIdx_eq hlt]
      refine ⟨by rw [hqj, hk]; simp, fun i hi => ?_⟩
      have := (List.pairwise_iff_getElem.1 h.2.2) i j (by omega) hlt hi
      rw [hqj] at this
      have h3 := this k
      by_cases h4 : (ps[i]'(by omega)).1.ownBlock = some k
      · exact absurd hk (h3 h4)
      · simpa using h4
end
/-- Rows behind rows. -/
theorem appendRs (w : World) {ops : Array Oper} {rest : List Oper} {o : Oper} {a : Act} {Q : Exit → Act → World → Prop}
    (hg : o.guard = none) (s x : Operand) (hop : o.op = Op.call { callee := Callee.builtin Builtin.append, args := #[s, x], argTypes := #[66, 66] })
    (B : Nat) (v : Value) (ps : List (Value × List Int)) (hs : a.eval s = v) (hown : RowsIs w B v ps) (ad : Addr) (qs : List (Value × List Int)) (n c : Nat) (hn : qs.length = n) (hx : a.eval x = .slice (some ad) n c)
    (hc : ∀ j u, (qs.map Prod.fst)[j]? = some u → w.cell? (ad.add j) = some u) (hq : ∀ q ∈ qs, RowIs w B q.1 q.2) (hsep : (ps ++ qs).Pairwise fun a b => Parted a.1 b.1) (hl : ps.length + n ≤ 100000) (hB : B ≤ w.heap.size)
    (hK : ∀ v' w', RowsIs w' B v' (ps ++ qs) → w.grownBy w' v.ownBlock → (v'.ownBlock = v.ownBlock ∨ v'.ownBlock = some w.heap.size) → wpList Try.prog ops Q rest (a.put o.dst v') w') :
    wpList Try.prog ops Q (o :: rest) a w := by
  obtain ⟨i3, hi3, hz3, hs3, hb3⟩ := info_parts info22
  refine wpList_append_own_at w hg s x 66 hop B 22 i3 _ 1 24 Try.underlying66 hi3 hz3 hs3 hb3 rfl (by decide) v ps.length (ps.map Prod.fst) hs hown.1 ad n c (qs.map Prod.fst) hx (by simp [hn]) hc ?_ (by unfold maxLen; omega) (by omega) hB ?_
  · intro u hu
    obtain ⟨q, hq1, rfl⟩ := List.mem_map.1 hu
    obtain ⟨A, c', e, _⟩ := (hq q hq1).reads
    rw [e]
    rfl
  · intro v' w' h1 h2 _ h4
    have hk : ∀ {q : Value × List Int}, RowIs w B q.1 q.2 → RowIs w' B q.1 q.2 := fun {q} h => h.kept h2 (h.apart hown)
    refine hK v' w' ⟨?_, ?_, hsep⟩ h2 h4
    · rw [List.length_append, List.map_append, hn]
      exact h1
    · intro q hq1
      rcases List.mem_append.1 hq1 with h | h
      · exact hk (hown.2.1 q h)
      · exact hk (hq q h)
/-- .. nothing behind rows. -/
theorem appendRs0 (w : World) {ops : Array Oper} {rest : List Oper} {o : Oper} {a : Act} {Q : Exit → Act → World → Prop}
    (hg : o.guard = none) (s x : Operand) (hop : o.op = Op.call { callee := Callee.builtin Builtin.append, args := #[s, x], argTypes := #[66, 66] })
    (B : Nat) (v : Value) (ps : List (Value × List Int)) (hs : a.eval s = v) (hown : RowsIs w B v ps) (hx : a.eval x = .slice none 0 0)
    (hK : wpList Try.prog ops Q rest (a.put o.dst v) w) :
    wpList Try.prog ops Q (o :: rest) a w := by
  obtain ⟨i3, hi3, hz3, hs3, hb3⟩ := info_parts info22
  exact wpList_append_own_none hg s x 66 hop B 22 i3 1 Try.underlying66 hi3 v ps.length (ps.map Prod.fst) hs hown.1 hx hK

/-! ### The first numbers; the rows in their order -/
def hd (l : List Int) : Int := rd l 0
theorem hd_cons (x : Int) (s : List Int) : hd (x :: s) = x := by simp [hd, rd]
/-- One number more: its cycle, if it is a new one. -/
def cycStep (m : Int) (t p : List Int) (steps : Int) (out : List (List Int)) (n : Int) : List (List Int) :=
  if (cycleW m t p n steps).2.2 = 0 ∧ hd (cycleW m t p n steps).1 ∉ out.map hd then out ++ [(cycleW m t p n steps).1] else out
def cycRows (m : Int) (t p : List Int) (steps lo : Int) : Nat → List (List Int)
  | 0 => []
  | k + 1 => cycStep m t p steps (cycRows m t p steps lo k) (lo + k)
def sortRows (l : List (List Int)) : List (List Int) := l.mergeSort fun a b => decide (hd a ≤ hd b)
theorem sortRows_perm (l : List (List Int)) : (sortRows l).Perm l := List.mergeSort_perm ..
theorem hd_nodup {l : List (List Int)} (h : (l.map hd).Nodup) : l.Pairwise fun a b => hd a ≠ hd b := by
  rw [List.nodup_iff_pairwise_ne, List.pairwise_map] at h
  exact h
theorem sortRows_sorted (l : List (List Int)) (h : (l.map hd).Nodup) : (sortRows l).Pairwise fun a b => hd a < hd b := by
  have hs := List.pairwise_mergeSort (le := fun a b : List Int => decide (hd a ≤ hd b)) (fun a b c => by simp; omega) (fun a b => by simp; omega) l
  have hn : ((sortRows l).map hd).Nodup := ((sortRows_perm l).map hd).nodup_iff.2 h
  refine (hs.and (hd_nodup hn)).imp ?_
  rintro a b ⟨h1, h2⟩
  have := of_decide_eq_true h1
  omega
theorem rows_unique : ∀ (a b : List (List Int)), a.Perm b → (a.Pairwise fun x y => hd x < hd y) → (b.Pairwise fun x y => hd x < hd y) → a = b
  | [], b, h, _, _ => (List.Perm.nil_eq h)
  | x :: a, [], h, _, _ => by have := h.length_eq; simp at this
  | x :: a, y :: b, h, ha, hb => by
    have hxy : x = y := by
      rcases List.mem_cons.1 (h.mem_iff.1 List.mem_cons_self) with e | e
      · exact e
      · rcases List.mem_cons.1 (h.mem_iff.2 List.mem_cons_self) with e2 | e2
        · exact e2.symm
        · have h1 := (List.pairwise_cons.1 hb).1 x e
          have h2 := (List.pairwise_cons.1 ha).1 y e2
          omega
    subst hxy
    rw [rows_unique a b (List.Perm.cons_inv h) (List.pairwise_cons.1 ha).2 (List.pairwise_cons.1 hb).2]
theorem sortRows_of {a l : List (List Int)} (hp : a.Perm l) (hs : a.Pairwise fun x y => hd x < hd y) : sortRows l = a := by
  have hn : (l.map hd).Nodup := by
    refine ((hp.map hd).nodup_iff).1 ?_
    rw [List.nodup_iff_pairwise_ne, List.pairwise_map]
    exact hs.imp (fun h => by omega)
  exact rows_unique _ _ ((sortRows_perm l).trans hp.symm) (sortRows_sorted l hn) hs

theorem RowIs.head {W : World} {B : Nat} {v : Value} {xs : List Int} (h : RowIs W B v xs) (hne : xs ≠ []) : ∃ g cap, v = .slice (some ⟨g, 0, none⟩) xs.length cap ∧ W.cell? ⟨g, 0, none⟩ = some (.int .i64 (hd xs)) := by
  obtain ⟨g, cap, rfl⟩ := h.form hne
  obtain ⟨A, c, e, _, hC⟩ := h.reads
  injection e with e1 _ _
  have h0 : 0 < xs.length := List.length_pos_iff.2 hne
  obtain ⟨ad, e2, hc⟩ := Kd.at_int hC 0 (by omega) (by omega)
  rw [← e1] at e2
  injection e2 with e2
  subst e2
  exact ⟨g, cap, rfl, by simpa [hd, Addr.add] using hc⟩
theorem parted_new {W W' : World} {B : Nat} {v u : Value} {ps : List (Value × List Int)} {xs : List Int} (h : RowsIs W B v ps) (hr : RowIs W' W.heap.size u xs) : ∀ q ∈ ps, Parted q.1 u := fun q hq k e e2 => by
  have := ((h.2.1 q hq).block e).2.1
  have := (hr.block e2).1
  omega

section
variable {m : Int} {t p : List Int}
theorem cycleW_row {x steps : Int} (h : (cycleW m t p x steps).2.2 = 0) : 0 < (cycleW m t p x steps).1.length ∧ ((cycleW m t p x steps).1.length : Int) ≤ steps ∧ ∀ y ∈ (cycleW m t p x steps).1, smallB y = true := by
  obtain ⟨cy, at', e⟩ : ∃ cy at', cycleW m t p x steps = (cy, at', 0) := ⟨(cycleW m t p x steps).1, (cycleW m t p x steps).2.1, by rw [← h]⟩
  rw [e]
  obtain ⟨n, j, hF, rfl, rfl⟩ := cycleW_found e
  have hl : (writtenL ((orbTo m t p x n).drop j)).length = n - j := by rw [writtenL_length, List.length_drop, orbTo_length]
  have h1 := hF.lt
  have h2 := hF.le
  refine ⟨by show 0 < (writtenL ((orbTo m t p x n).drop j)).length; omega, by show ((writtenL ((orbTo m t p x n).drop j)).length : Int) ≤ steps; omega, fun y hy => ?_⟩
  have hy : y ∈ writtenL ((orbTo m t p x n).drop j) := hy
  have hy2 : y ∈ (orbTo m t p x n).drop j := by
    unfold writtenL at hy
    rcases List.mem_append.1 hy with h | h
    · exact List.mem_of_mem_drop h
    · exact List.mem_of_mem_take h
  obtain ⟨i, hi, rfl⟩ := mem_orbTo.1 (List.mem_of_mem_drop hy2)
  exact hF.small i hi
theorem hd_mem {l : List Int} (h : 0 < l.length) : hd l ∈ l := by
  cases l with
  | nil => simp at h
  | cons a l => simp [hd, rd]
theorem cycRows_length (steps lo : Int) (k : Nat) : (cycRows m t p steps lo k).length ≤ k := by
  induction k with
  | zero => simp [cycRows]
  | succ k ih =>
    rw [cycRows, cycStep]
    split
    · rw [List.length_append]; simp; omega
    · omega
theorem cycRows_nodup (steps lo : Int) (k : Nat) : ((cycRows m t p steps lo k).map hd).Nodup := by
  induction k with
  | zero => simp [cycRows]
  | succ k ih =>
    rw [cycRows, cycStep]
    split
    · rename_i h
      rw [List.map_append, List.nodup_append]
      refine ⟨ih, by simp, fun a ha b hb => ?_⟩
      simp only [List.map_cons, List.map_nil, List.mem_singleton] at hb
      subst hb
      intro e
      subst e
      exact h.2 ha
    · exact ih
theorem cycRows_row (steps lo : Int) (k : Nat) : ∀ l ∈ cycRows m t p steps lo k, ∃ i, i < k ∧ l = (cycleW m t p (lo + (i : Nat)) steps).1 ∧ (cycleW m t p (lo + (i : Nat)) steps).2.2 = 0 := by
  induction k with
  | zero => simp [cycRows]
  | succ k ih =>
    intro l hl
    rw [cycRows, cycStep] at hl
    split at hl
    · rename_i h
      rcases List.mem_append.1 hl with h1 | h1
      · obtain ⟨i, h2, h3⟩ := ih l h1
        exact ⟨i, by omega, h3⟩
      · simp only [List.mem_singleton] at h1
        exact ⟨k, by omega, h1, h.1⟩
    · obtain ⟨i, h2, h3⟩ := ih l hl
      exact ⟨i, by omega, h3⟩
end
/-- The cycles of a range. -/
def cyclesW (m : Int) (t p : List Int) (lo hi steps : Int) : List (List Int) := sortRows (cycRows m t p steps lo (hi - lo + 1).toNat)
end Go.Proofs.Ytkjojcepombhpaa.L
