/- Rows of rows that a call makes itself. -/
import Derived.Test.YtkefmlhkejoknaaXEnds
import Derived.Laws.AppendOwnNone
import Derived.Maps.OwnIn
namespace Go.Proofs.Ytkefmlhkejoknaa.L
set_option linter.unusedVariables false
set_option linter.unusedSimpArgs false
open Go.RowKit Go.Shelf Go.Proofs.YtkefmlhkejoknaaW.PrintWords Go.Proofs.YtkefmlhkejoknaaW.PrintLast Go.Proofs.YtkefmlhkejoknaaW.PrintMore

/-- A row of numbers that the call makes itself, from B on. -/
def RowIs (W : World) (B : Nat) (v : Value) (xs : List Int) : Prop := W.ownsRow B 3 1 v xs.length (encs (Value.int .i64) xs)
theorem RowIs.nil (W : World) (B : Nat) : RowIs W B (.slice none 0 0) [] := ⟨rfl, .inl ⟨rfl, rfl⟩⟩
section
variable {W W' : World} {B B' : Nat} {v u : Value} {xs ys : List Int} {row : Option Nat} {k : Nat}
theorem RowIs.kept (h : RowIs W B v xs) (hg : W.grownBy W' row) (hne : v.ownBlock = none ∨ v.ownBlock ≠ row) : RowIs W' B v xs := World.ownsRow.kept h hg hne
theorem RowIs.block (h : RowIs W B v xs) (hk : v.ownBlock = some k) : B ≤ k ∧ k < W.heap.size ∧ ∃ o : Obj, W.heap[k]? = some o ∧ o.isCells = true := by
  obtain ⟨_, h | ⟨g, cap, cur, rfl, hb, hc, _⟩⟩ := h
  · rw [h.1] at hk; cases hk
  · cases hk
    exact ⟨hb, (Array.getElem?_eq_some_iff.1 hc).1, _, hc, rfl⟩
theorem RowIs.move (h : RowIs W B v xs) (hm : ∀ k, v.ownBlock = some k → W'.heap[k]? = W.heap[k]?) : RowIs W' B v xs := own_move h hm
theorem RowIs.own (h : RowIs W B v xs) (hg : W.grownBy W' row) (hr : ∀ r, row = some r → ∃ o : Obj, W.heap[r]? = some o ∧ o.isCells = false) : RowIs W' B v xs := by
  refine h.kept hg ?_
  cases hk : v.ownBlock with
  | none => exact .inl rfl
  | some k =>
    refine .inr (fun e => ?_)
    obtain ⟨_, _, o, ho, hc⟩ := h.block hk
    obtain ⟨o', ho', hc'⟩ := hr k e.symm
    rw [ho] at ho'
    cases ho'
    rw [hc] at hc'
    cases hc'
theorem RowIs.R {base : Nat} (h : RowIs W B v xs) (hb : base ≤ B) : Kd.R (Kd.int .i64) 3 W base (fun _ => True) v xs :=
  Kd.R_of_own (own_weaken h hb) (fun _ _ => trivial)
theorem RowIs.toC {x : ACyc} (h : RowIs W B x.1 x.2) : CyC B x W := h.R (Nat.le_refl _)
theorem RowIs.alloc (h : RowIs W B v xs) (o : Obj) : RowIs (W.alloc o) B v xs := h.own (World.grownBy_alloc W o none) (fun r e => by cases e)
theorem RowIs.form (h : RowIs W B v xs) (hne : xs ≠ []) : ∃ g cap, v = .slice (some ⟨g, 0, none⟩) xs.length cap := by
  obtain ⟨_, h | ⟨g, cap, cur, rfl, _⟩⟩ := h
  · have := h.2
    cases xs with
    | nil => exact absurd rfl hne
    | cons => simp at this
  · exact ⟨g, cap, rfl⟩
theorem RowIs.reads (h : RowIs W B v xs) : ∃ A c, v = .slice A xs.length c ∧ xs.length ≤ c ∧ Kd.C (Kd.int .i64) W A xs.length xs := Kd.R_reads (h.R (Nat.le_refl B))
theorem RowIs.mono (h : RowIs W B v xs) (hb : B' ≤ B) : RowIs W B' v xs := own_weaken h hb
theorem RowIs.typed (h : RowIs W B v xs) {r : Nat} (hr : v.ownBlock = some r) : ∃ cs, W.heap[r]? = some (.cells cs 3 (0, 0)) := own_typed h r hr
theorem RowIs.below (h : RowIs W B v xs) (hb : Below W.heap.size W W') : RowIs W' B v xs := h.own (grown_of_below hb none) (fun r e => by cases e)
/-- The row is in one block; it is what the block says. -/
theorem RowIs.same (h : RowIs W B v xs) (h' : RowIs W B' u ys) (hl : xs.length = ys.length) (hv : v.ownBlock = some k) (hu : u.ownBlock = some k) : xs = ys := by
  obtain ⟨_, h | ⟨g, cap, cur, rfl, _, hc, _, _, _, ht⟩⟩ := h
  · rw [h.1] at hv; cases hv
  · obtain ⟨_, h' | ⟨g', cap', cur', rfl, _, hc', _, _, _, ht'⟩⟩ := h'
    · rw [h'.1] at hu; cases hu
    · cases hv
      cases hu
      rw [hc] at hc'
      cases hc'
      rw [hl, ht'] at ht
      have hi : ∀ a b : Int, Value.int .i64 a = Value.int .i64 b → a = b := fun a b e => by injection e
      unfold encs at ht
      exact ((List.map_inj_right hi).1 ht).symm
end

/-- Two rows that do not share memory. -/
def Parted (v u : Value) : Prop := ∀ k, v.ownBlock = some k → u.ownBlock ≠ some k
theorem Parted.symm {v u : Value} (h : Parted v u) : Parted u v := fun k e e2 => h k e2 e
/-- A list of rows of the call's own, from B on, each with its value, no two in one block. -/
def RowsIs (W : World) (B : Nat) (v : Value) (ps : List ACyc) : Prop :=
  W.ownsRow B 39 1 v ps.length (ps.map Prod.fst) ∧ (∀ q ∈ ps, RowIs W B q.1 q.2) ∧ ps.Pairwise fun a b => Parted a.1 b.1
theorem RowsIs.nil (W : World) (B : Nat) : RowsIs W B (.slice none 0 0) [] := ⟨⟨rfl, .inl ⟨rfl, rfl⟩⟩, by simp, List.Pairwise.nil⟩
section
variable {W W' : World} {B : Nat} {v u : Value} {ps qs : List ACyc} {xs : List Int} {row : Option Nat}
theorem RowsIs.block (h : RowsIs W B v ps) {k : Nat} (hk : v.ownBlock = some k) : B ≤ k ∧ k < W.heap.size ∧ ∃ cs, W.heap[k]? = some (.cells cs 39 (0, 0)) :=
  ⟨own_base h.1 k hk, own_lt h.1 k hk, own_typed h.1 k hk⟩
theorem RowIs.apartO {n : Nat} {inner : List Value} {B2 : Nat} (hu : RowIs W B u xs) (h : W.ownsRow B2 39 1 v n inner) : u.ownBlock = none ∨ u.ownBlock ≠ v.ownBlock := by
  cases e : u.ownBlock with
  | none => exact .inl rfl
  | some k =>
    refine .inr (fun e2 => ?_)
    obtain ⟨cs, hc⟩ := own_typed h k e2.symm
    obtain ⟨cs', hc'⟩ := hu.typed e
    rw [hc] at hc'
    cases hc'
theorem RowIs.apart (hu : RowIs W B u xs) (h : RowsIs W B v ps) : u.ownBlock = none ∨ u.ownBlock ≠ v.ownBlock := hu.apartO h.1
theorem RowsIs.move (h : RowsIs W B v ps) (hm : ∀ k o, W.heap[k]? = some o → B ≤ k → o.isCells = true → W'.heap[k]? = W.heap[k]?) : RowsIs W' B v ps := by
  refine ⟨own_move h.1 (fun k hk => ?_), fun q hq => (h.2.1 q hq).move (fun k hk => ?_), h.2.2⟩
  · obtain ⟨h1, _, cs, hc⟩ := h.block hk
    exact hm k _ hc h1 rfl
  · obtain ⟨h1, _, o, ho, hc⟩ := (h.2.1 q hq).block hk
    exact hm k _ ho h1 hc
/-- A block that is none of these rows has turned. -/
theorem RowsIs.kept (h : RowsIs W B v ps) (hg : W.grownBy W' row) (hne : ∀ k, row = some k → k < B ∨ ∃ o : Obj, W.heap[k]? = some o ∧ o.isCells = false) : RowsIs W' B v ps := by
  refine h.move (fun k o ho hB hc => hg.block k (Array.getElem?_eq_some_iff.1 ho).1 (fun e => ?_))
  rcases hne k e.symm with h1 | ⟨o', h1, h2⟩
  · omega
  · rw [ho] at h1; cases h1; rw [hc] at h2; cases h2
theorem RowsIs.below (h : RowsIs W B v ps) (hb : Below W.heap.size W W') : RowsIs W' B v ps := h.kept (grown_of_below hb none) (fun k e => by cases e)
theorem RowsIs.alloc (h : RowsIs W B v ps) (o : Obj) : RowsIs (W.alloc o) B v ps := h.kept (World.grownBy_alloc W o none) (fun k e => by cases e)
theorem RowsIs.form (h : RowsIs W B v ps) (hne : ps ≠ []) : ∃ g cap, v = .slice (some ⟨g, 0, none⟩) ps.length cap ∧ B ≤ g ∧ g < W.heap.size ∧ ps.length ≤ cap ∧ ∀ j u, (ps.map Prod.fst)[j]? = some u → W.cell? ((⟨g, 0, none⟩ : Addr).add j) = some u := by
  obtain ⟨h1, h2⟩ := h
  rcases h1.2 with ⟨_, h3⟩ | ⟨g, cap, cur, rfl, h3, h4, h5, _⟩
  · exact absurd (List.length_eq_zero_iff.1 h3) hne
  · exact ⟨g, cap, rfl, h3, (Array.getElem?_eq_some_iff.1 h4).1, h5, h1.cells rfl⟩
theorem RowsIs.mono {B' : Nat} (h : RowsIs W B v ps) (hb : B' ≤ B) : RowsIs W B' v ps := ⟨own_weaken h.1 hb, fun q hq => (h.2.1 q hq).mono hb, h.2.2⟩
/-- .. as it is handed back. -/
theorem RowsIs.S {base : Nat} (h : RowsIs W B v ps) (hb : base ≤ B) : Kd.S (Kd.slice 3 (Kd.int .i64)) 39 W base (fun _ => True) v (ps.map Prod.snd) := by
  refine ⟨fun k => ps.findIdx fun q => q.1.ownBlock == some k, fun _ _ => trivial, ps.map Prod.fst, ?_, ?_⟩
  · rw [List.length_zipIdx, List.length_map]
    exact own_weaken h.1 hb
  · refine ⟨by simp [Kd.slice, Kd.tag], fun j p hj => ?_⟩
    rw [List.getElem?_zipIdx, List.getElem?_map, Option.map_map, Option.map_eq_some_iff] at hj
    obtain ⟨q, hq, rfl⟩ := hj
    have hq2 := List.mem_of_getElem? hq
    obtain ⟨hlt, hqj⟩ := List.getElem?_eq_some_iff.1 hq
    have he : ((ps.map Prod.fst).drop (j * 1)).take 1 = [q.1] := by
      rw [Nat.mul_one, List.drop_eq_getElem_cons (by rw [List.length_map]; exact hlt)]
      simp [hqj]
    show ∃ v', ((ps.map Prod.fst).drop (j * 1)).take 1 = [v'] ∧ _
    refine ⟨q.1, he, Kd.R_of_own (own_weaken (h.2.1 q hq2) hb) (fun k hk => ⟨⟨trivial, fun e => ?_⟩, ?_⟩)⟩
    · rcases (h.2.1 q hq2).apart h with h1 | h1
      · rw [h1] at hk; cases hk
      · exact h1 (hk.trans e)
    · show ps.findIdx (fun q => q.1.ownBlock == some k) = 0 + j
      rw [Nat.zero_add, List.findIdx_eq hlt]
      refine ⟨by rw [hqj, hk]; simp, fun i hi => ?_⟩
      have := (List.pairwise_iff_getElem.1 h.2.2) i j (by omega) hlt hi
      rw [hqj] at this
      have h3 := this k
      by_cases h4 : (ps[i]'(by omega)).1.ownBlock = some k
      · exact absurd hk (h3 h4)
      · simpa using h4
end
end Go.Proofs.Ytkefmlhkejoknaa.L
