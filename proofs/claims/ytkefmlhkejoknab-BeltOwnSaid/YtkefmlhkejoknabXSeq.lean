/- slices.AppendSeq over the cycles of one length. -/
import Derived.Test.YtkefmlhkejoknabXRows
namespace Go.Proofs.Ytkefmlhkejoknab.L
set_option linter.unusedVariables false
set_option linter.unusedSimpArgs false
open Go.RowKit Go.Shelf Go.Proofs.YtkefmlhkejoknabW.PrintWords Go.Proofs.YtkefmlhkejoknabW.PrintLast Go.Proofs.YtkefmlhkejoknabW.PrintMore

/-! ### How many cycles there are, and that no two of them are alike -/
theorem cycB_head (n : Int) (l : List S46) (size : Nat) : ∀ (d : Nat) (xs c : List Int), c ∈ cycB n l size d xs → xs <+: c
  | 0, xs, c, h => by
    rw [cycB] at h
    split at h
    · simp at h
    · rw [List.mem_singleton] at h; subst h; exact List.prefix_refl _
  | d + 1, xs, c, h => by
    rw [cycB, List.mem_flatMap] at h
    obtain ⟨v, _, h⟩ := h
    split at h
    · exact (List.prefix_append xs [v]).trans (cycB_head n l size d _ _ h)
    · simp at h
theorem cycB_len (n : Int) (l : List S46) (size : Nat) : ∀ (d : Nat) (xs c : List Int), c ∈ cycB n l size d xs → c.length = xs.length + d
  | 0, xs, c, h => by
    rw [cycB] at h
    split at h
    · simp at h
    · rw [List.mem_singleton] at h; subst h; rfl
  | d + 1, xs, c, h => by
    rw [cycB, List.mem_flatMap] at h
    obtain ⟨v, _, h⟩ := h
    split at h
    · rw [cycB_len n l size d _ _ h, List.length_append]; simp; omega
    · simp at h
theorem prefix_snoc {xs c : List Int} {a b : Int} (h1 : xs ++ [a] <+: c) (h2 : xs ++ [b] <+: c) : a = b := by
  obtain ⟨s, e1⟩ := h1
  obtain ⟨t, e2⟩ := h2
  have e := e1.trans e2.symm
  simp only [List.append_assoc, List.append_cancel_left_eq, List.singleton_append, List.cons.injEq] at e
  exact e.1
theorem cycB_nodup (n : Int) (l : List S46) (size : Nat) : ∀ (d : Nat) (xs : List Int), (cycB n l size d xs).Nodup
  | 0, xs => by
    rw [cycB]
    split <;> simp
  | d + 1, xs => by
    rw [cycB, List.nodup_iff_pairwise_ne, List.pairwise_flatMap]
    refine ⟨fun v _ => ?_, ?_⟩
    · split
      · exact cycB_nodup n l size d _
      · exact List.Pairwise.nil
    · rw [List.pairwise_map]
      refine List.Pairwise.imp ?_ (List.pairwise_lt_range)
      intro i j hij x hx y hy e
      subst e
      split at hx
      · split at hy
        · have := prefix_snoc (cycB_head n l size d _ _ hx) (cycB_head n l size d _ _ hy)
          omega
        · simp at hy
      · simp at hx
theorem cyclesB_nodup (n : Int) (l : List S46) (size : Nat) : (cyclesB n l size).Nodup := by
  unfold cyclesB
  rw [List.nodup_iff_pairwise_ne, List.pairwise_flatMap]
  refine ⟨fun v _ => cycB_nodup n l size _ _, List.Pairwise.imp ?_ (List.pairwise_lt_range)⟩
  intro i j hij x hx y hy e
  subst e
  have := prefix_snoc (xs := []) (cycB_head n l size _ _ _ hx) (cycB_head n l size _ _ _ hy)
  omega
theorem cyclesB_len {n : Int} {l : List S46} {size : Nat} (hs : 1 ≤ size) {c : List Int} (h : c ∈ cyclesB n l size) : c.length = size := by
  unfold cyclesB at h
  rw [List.mem_flatMap] at h
  obtain ⟨v, _, h⟩ := h
  rw [cycB_len n l size _ _ _ h]
  simp; omega
theorem length_flatMap_le {α β : Type} (f : α → List β) (k : Nat) : ∀ l : List α, (∀ x ∈ l, (f x).length ≤ k) → (l.flatMap f).length ≤ l.length * k
  | [], _ => by simp
  | x :: l, h => by
    rw [List.flatMap_cons, List.length_append, List.length_cons, Nat.succ_mul]
    have h1 := h x List.mem_cons_self
    have h2 := length_flatMap_le f k l (fun y hy => h y (List.mem_cons_of_mem _ hy))
    omega
theorem cycB_count (n : Int) (l : List S46) (size N : Nat) (hn : n ≤ N) : ∀ (d : Nat) (xs : List Int), (∀ x ∈ xs, 0 ≤ x) → xs ≠ [] → (cycB n l size d xs).length ≤ N ^ d
  | 0, xs, _, _ => by
    rw [cycB]
    split <;> simp
  | d + 1, xs, h, hne => by
    rw [cycB]
    have h0 : 0 ≤ xs.headD 0 := by
      cases xs with
      | nil => exact absurd rfl hne
      | cons a t => exact h a List.mem_cons_self
    refine Nat.le_trans (length_flatMap_le _ (N ^ d) _ (fun v hv => ?_)) ?_
    · rw [List.mem_map] at hv
      obtain ⟨i, _, rfl⟩ := hv
      split
      · refine cycB_count n l size N hn d _ (fun x hx => ?_) (by simp)
        rcases List.mem_append.1 hx with h1 | h1
        · exact h x h1
        · rw [List.mem_singleton] at h1; omega
      · simp
    · rw [List.length_map, List.length_range, Nat.pow_succ, Nat.mul_comm]
      exact Nat.mul_le_mul_left _ (by omega)
theorem cyclesB_count (n : Int) (l : List S46) (size : Nat) (hn : n ≤ 12) (hs : 1 ≤ size) : (cyclesB n l size).length ≤ 12 ^ size := by
  unfold cyclesB
  refine Nat.le_trans (length_flatMap_le _ (12 ^ (size - 1)) _ (fun v _ => cycB_count n l size 12 (by omega) _ _ (by simp) (by simp))) ?_
  rw [List.length_range]
  obtain ⟨k, rfl⟩ : ∃ k, size = k + 1 := ⟨size - 1, by omega⟩
  rw [Nat.add_sub_cancel, Nat.pow_succ, Nat.mul_comm]
  exact Nat.mul_le_mul_left _ (by omega)

theorem setCell_grown (W : World) (b i : Nat) (u : Value) : W.grownBy (W.setCell ⟨b, i, none⟩ u) (some b) :=
  ⟨rfl, rfl, rfl, by simp [World.setCell], fun k hk hne => Below.heap_setCell W ⟨b, i, none⟩ u k (fun e => hne (by rw [e]))⟩

/-- One row more behind a list of rows. -/
theorem appendRow {F : Fence} {n : Nat} (w : World) {ops : Array Oper} {rest : List Oper} {o : Oper} {a : Act} {Q : Exit → Act → World → Prop}
    (hg : o.guard = none) (s x : Operand) (hop : o.op = Op.call { callee := Callee.builtin Builtin.append, args := #[s, x], argTypes := #[24, 24] })
    (B : Nat) (v : Value) (k : Nat) (us : List Value) (hs : a.eval s = v) (hown : w.ownsRow B 33 1 v k us) (g : Nat) (u : Value) (hu : u.oneCell' = true) (hx : a.eval x = .slice (some ⟨g, 0, none⟩) 1 1) (hc : w.cell? ⟨g, 0, none⟩ = some u) (hl : k < 5000000000000) (hB : B ≤ w.heap.size)
    (hK : ∀ v' w', w'.ownsRow B 33 1 v' (k + 1) (us ++ [u]) → w.grownBy w' v.ownBlock → (v'.ownBlock = v.ownBlock ∨ v'.ownBlock = some w.heap.size) → wpListIn F n Try.prog ops Q rest (a.put o.dst v') w') :
    wpListIn F n Try.prog ops Q (o :: rest) a w := by
  obtain ⟨i3, hi3, hz3, hs3, hb3⟩ := info_parts info33
  refine wpListIn_append_own_at w hg s x 24 hop B 33 i3 _ 1 24 Try.underlying24 hi3 hz3 hs3 hb3 rfl (by decide) v k us hs hown ⟨g, 0, none⟩ 1 1 [u] hx rfl ?_ (by simpa using hu) (by unfold maxLen; omega) (by omega) hB ?_
  · intro j y hy
    cases j with
    | zero => simp at hy; subst hy; simpa [Addr.add] using hc
    | succ j => simp at hy
  · intro v' w' h1 h2 _ h4
    exact hK v' w' h1 h2 h4

theorem own_form {W : World} {B k : Nat} {v : Value} {us : List Value} (h : W.ownsRow B 33 1 v k us) : ∃ A c, v = .slice A k c := by
  rcases h.2 with ⟨h1, h2⟩ | ⟨g, cap, _, h1, _⟩
  · subst h2
    exact ⟨none, 0, h1⟩
  · exact ⟨_, _, h1⟩
/-- What holds within AppendSeq. -/
def SeqV (B sB b1 b2 m : Nat) (w : World) (ps pre : List ACyc) (v : Value) (W : World) : Prop :=
  Whole W sB 24 #[v] ∧ W.ownsRow B 33 1 v (ps ++ pre).length ((ps ++ pre).map Prod.fst) ∧ (∀ q ∈ ps, RowIs W B q.1 q.2) ∧ (∀ q ∈ pre, RowIs W (sB + 1) q.1 q.2) ∧ Below B w W ∧ sB + 1 ≤ W.heap.size ∧
  (∀ k, v.ownBlock = some k → k ≠ sB ∧ k ≠ b1 ∧ k ≠ b2 ∧ k ≠ m) ∧ (B ≤ sB ∧ b1 < sB ∧ b2 < sB ∧ m < sB)
section
variable {B sB b1 b2 m : Nat} {w : World} {ps pre : List ACyc} {v v' : Value} {W W' : World} {row : Option Nat}
theorem SeqV.own (h : SeqV B sB b1 b2 m w ps pre v W) (hg : W.grownBy W' row) (hr : ∀ r, row = some r → sB + 1 ≤ r ∧ ∃ o : Obj, W.heap[r]? = some o ∧ o.isCells = false) : SeqV B sB b1 b2 m w ps pre v W' := by
  obtain ⟨h1, h2, h3, h4, h5, h6, h7, h8⟩ := h
  refine ⟨h1.grown hg (fun e => ?_), h2.kept hg ?_, fun q hq => (h3 q hq).own hg (fun r e => (hr r e).2), fun q hq => (h4 q hq).own hg (fun r e => (hr r e).2), h5.grown hg (by omega) (fun k e => by have := (hr k e).1; omega), Nat.le_trans h6 hg.size, h7, h8⟩
  · have := (hr _ e.symm).1; omega
  · cases e : v.ownBlock with
    | none => exact .inl rfl
    | some k =>
      refine .inr (fun e2 => ?_)
      obtain ⟨cs, hc⟩ := own_typed h2 k e
      obtain ⟨_, o, ho, hc'⟩ := hr k e2.symm
      rw [hc] at ho; cases ho; cases hc'
theorem SeqV.mid (h : SeqV B sB b1 b2 m w ps pre v W) {o : Obj} (hg : (W.alloc o).grownBy W' v.ownBlock) : W'.cell? ⟨sB, 0, none⟩ = some v ∧ W'.frozen? ⟨sB, 0, none⟩ = false := by
  have hw : Whole W' sB 24 #[v] := (h.1.alloc o).grown hg (fun e => (h.2.2.2.2.2.2.1 sB e.symm).1 rfl)
  exact ⟨hw.cell 0, hw.frozen 0⟩
theorem SeqV.step (h : SeqV B sB b1 b2 m w ps pre v W) {x : ACyc} (hx : RowIs W (sB + 1) x.1 x.2) (o : Obj) (hrow : W'.ownsRow B 33 1 v' ((ps ++ pre).length + 1) ((ps ++ pre).map Prod.fst ++ [x.1])) (hg : (W.alloc o).grownBy W' v.ownBlock) (hat : v'.ownBlock = v.ownBlock ∨ v'.ownBlock = some (W.alloc o).heap.size) :
    SeqV B sB b1 b2 m w ps (pre ++ [x]) v' (W'.setCell ⟨sB, 0, none⟩ v') ∧ KeepsFrom (sB + 1) W (W'.setCell ⟨sB, 0, none⟩ v') ∧ KpC b1 b2 m (sB + 1) W (W'.setCell ⟨sB, 0, none⟩ v') := by
  obtain ⟨h1, h2, h3, h4, h5, h6, h7, h8⟩ := h
  have hsz : W.heap.size < W'.heap.size := by have := hg.size; simp at this; omega
  have hst := setCell_grown W' sB 0 v'
  have hv : ∀ k, v'.ownBlock = some k → k ≠ sB ∧ k ≠ b1 ∧ k ≠ b2 ∧ k ≠ m := by
    intro k hk
    rcases hat with e | e
    · exact h7 k (e ▸ hk)
    · rw [e] at hk; cases hk; simp; omega
  have hk1 : ∀ k o', W.heap[k]? = some o' → v.ownBlock ≠ some k → W'.heap[k]? = some o' := fun k o' ho hne => by
    have hlt := (Array.getElem?_eq_some_iff.1 ho).1
    exact ((hg.block k (by simp; omega) (fun e => hne e.symm)).trans (Below.heap_alloc W o k hlt)).trans ho
  have hk2 : ∀ k o', W.heap[k]? = some o' → v.ownBlock ≠ some k → k ≠ sB → (W'.setCell ⟨sB, 0, none⟩ v').heap[k]? = some o' := fun k o' ho hne hks =>
    (Below.heap_setCell W' _ _ k hks).trans (hk1 k o' ho hne)
  have hrowk : ∀ {B' : Nat} {q : ACyc}, sB < B' ∨ B' = B → RowIs W B' q.1 q.2 → q.1.ownBlock ≠ some sB → RowIs (W'.setCell ⟨sB, 0, none⟩ v') B' q.1 q.2 := by
    intro B' q _ hq hne
    refine hq.move (fun k hk => ?_)
    obtain ⟨_, _, o', ho, _⟩ := hq.block hk
    refine (hk2 k o' ho (fun e => ?_) (fun e => hne (e ▸ hk))).trans ho.symm
    rcases hq.apartO h2 with h9 | h9
    · rw [h9] at hk; cases hk
    · exact h9 (hk.trans e.symm)
  have hnot : ∀ {B' : Nat} {q : ACyc}, RowIs W B' q.1 q.2 → q.1.ownBlock ≠ some sB := fun hq e => by
    obtain ⟨cs, hc⟩ := hq.typed e
    rw [show W.heap[sB]? = _ from h1] at hc
    cases hc
  refine ⟨⟨?_, ?_, fun q hq => hrowk (.inr rfl) (h3 q hq) (hnot (h3 q hq)), fun q hq => ?_, ?_, ?_, hv, h8⟩, ⟨?_, ?_⟩, ⟨?_, ?_⟩⟩
  · have hw : Whole W' sB 24 #[v] := hk1 sB _ h1 (fun e => (h7 sB e).1 rfl)
    have := hw.set 0 v'
    simpa using this
  · rw [← List.append_assoc, List.length_append, List.map_append]
    refine World.ownsRow.kept hrow hst ?_
    cases e : v'.ownBlock with
    | none => exact .inl rfl
    | some k => exact .inr (fun e2 => (hv k e).1 (by injection e2))
  · rcases List.mem_append.1 hq with hq | hq
    · exact hrowk (.inl (by omega)) (h4 q hq) (hnot (h4 q hq))
    · rw [List.mem_singleton] at hq; subst hq
      exact hrowk (.inl (by omega)) hx (hnot hx)
  · refine Below.setAt ?_ (by omega) 0 _
    exact (h5.alloc (by omega) o).grown hg (by simp; omega) (fun k e => own_base h2 k e)
  · have := hst.size; omega
  · have := hst.size; omega
  · intro k o' hk ho hc
    refine hk2 k o' ho (fun e => ?_) (by omega)
    obtain ⟨cs, hc2⟩ := own_typed h2 k e
    rw [hc2] at ho; cases ho; cases hc
  · have := hst.size; omega
  · intro k o' ho hk
    refine hk2 k o' ho (fun e => ?_) (by omega)
    have h9 := h7 k e
    rcases hk with hk | hk | hk | ⟨hk, _, hr⟩
    · exact h9.2.1 hk
    · exact h9.2.2.1 hk
    · exact h9.2.2.2 hk
    · obtain ⟨cs, hc2⟩ := own_typed h2 k e
      rw [hc2] at ho; cases ho; cases hr
end

attribute [local go_sem] Oper.semAt_some
set_option maxRecDepth 100000 in
set_option maxHeartbeats 4000000 in
theorem appendSeq_any (n : Int) (A : Option Addr) (c m : Nat) (l : List S46) (size b1 b2 B : Nat) (v : Value) (ps : List ACyc) (w : World) (hn : n ≤ 12) (h0 : 1 ≤ n) (hsz : 3 ≤ size) (hsz2 : size ≤ 11)
    (hb1 : Whole w b1 3 #[.int .i64 (size : Int)]) (hb2 : Whole w b2 52 #[.int .i64 n, .slice A l.length c, .map (some m)]) (hM : MapIs w m l) (hv : RowsIs w B v ps) (hB : B ≤ w.heap.size) (hl : ps.length ≤ 4000000000000) :
    Calls Try.prog 24 #[v, .func (.func 54) #[] #[.pointer (some ⟨b1, 0, none⟩), .pointer (some ⟨b2, 0, none⟩)]] w fun e w' => ∃ v' qs, e = .returned v' ∧ qs.map Prod.snd = cyclesB n l size ∧ RowsIs w' B v' (ps ++ qs) ∧ Below B w w' := by
  obtain ⟨A0, c0, rfl⟩ : ∃ A0 c0, v = .slice A0 ps.length c0 := by
    rcases hv.1.2 with ⟨h, h2⟩ | ⟨g, cap, _, h, _⟩
    · exact ⟨none, 0, by rw [h, h2]⟩
    · exact ⟨_, _, h⟩
  have k1 := hb1.alloc (.cells #[.slice A0 ps.length c0] 24)
  have k2 := hb2.alloc (.cells #[.slice A0 ps.length c0] 24)
  have kM := hM.alloc (.cells #[.slice A0 ps.length c0] 24)
  have hcnt : (cyclesB n l size).length ≤ 743008370688 := by
    refine Nat.le_trans (cyclesB_count n l size hn (by omega)) (Nat.le_trans (Nat.pow_le_pow_right (by omega) hsz2) (by decide))
  have hS0 : SeqV B w.heap.size b1 b2 m w ps [] (.slice A0 ps.length c0) (w.alloc (.cells #[.slice A0 ps.length c0] 24)) := by
    have hv2 := hv.alloc (.cells #[.slice A0 ps.length c0] 24)
    refine ⟨Whole.new _ _ _, by rw [List.append_nil]; exact hv2.1, hv2.2.1, by simp, (Below.refl _ _).alloc hB _, by simp, fun k hk => ?_, hB, hb1.lt, hb2.lt, hM.lt⟩
    obtain ⟨cs, hc⟩ := own_typed hv.1 k hk
    have hlt := own_lt hv.1 k hk
    refine ⟨by omega, ?_, ?_, ?_⟩
    · rintro rfl; rw [show w.heap[k]? = _ from hb1] at hc; cases hc
    · rintro rfl; rw [show w.heap[k]? = _ from hb2] at hc; cases hc
    · rintro rfl; rw [show w.heap[k]? = _ from hM] at hc; cases hc
  have hsep := hv.2.2
  have hrows := hv.2.1
  have HV := Lib.hid hv
  clear hv hb1 hb2 hM
  refine (callsIn_wide (n := 6)).1 ?_
  refine callsIn_of_wp_marks Try.func24 rfl trivial ?_ rfl
  simp only [Try.ntmps24, List.size_toArray, List.length_cons, List.length_nil, Nat.reduceAdd, Nat.reduceSub, Array.replicate_succ, Array.replicate_zero, List.push_toArray, List.append_toArray, List.nil_append, List.cons_append]
  gi_wp2
  have hgives := cycles1_gives 5 n A c m l size b1 b2 _ hn h0 hsz (by omega) k1 k2 kM
  have hszw : (w.alloc (.cells #[.slice A0 ps.length c0] 24)).heap.size = w.heap.size + 1 := World.size_alloc _ _
  generalize hW1 : w.alloc (.cells #[.slice A0 ps.length c0] 24) = W1 at hgives hS0 hszw ⊢
  clear hW1 k1 k2 kM
  rw [hszw] at hgives
  have hlt1 := hS0.2.2.2.2.2.2.2
  refine wpIn_rangeC rfl (by omega) (gf := 54) (lb := #[.pointer (some ⟨b1, 0, none⟩), .pointer (some ⟨b2, 0, none⟩)]) rfl trivial (enters_of Try.func54 (by kernel_rfl) rfl) hgives (fun h k => KpC_t h k) ?hKb (Below.refl _ _) (fun _ => rfl) (fun x => CyC_own _ _ x)
    (fun pre W => ∃ v', SeqV B w.heap.size b1 b2 m w ps pre v' W)
    (fun co pre W => False)
    ?hI ?hIx ⟨_, hS0⟩
    ?a1 ?assign ?body ?done ?stop
  case assign =>
    intro lp x W K hK
    gi_wp2
    exact hK
  case hKb =>
    intro W k o o' hk ho hc hw
    refine ⟨by simp, fun q p hp hq => ?_⟩
    rw [World.putObj_heap_other ?_]
    · exact hp
    · rintro rfl
      rw [ho] at hp
      cases hp
      rcases hq with h | h | h | ⟨_, h, _⟩
      · omega
      · omega
      · omega
      · rw [hc] at h; cases h
  case hI => exact fun pre X Y row h hg hr => h.imp fun v h => h.own hg (fun r e => by rw [← hszw]; exact hr r e)
  case hIx => exact fun _ _ _ _ _ h _ _ => h
  case body =>
    rintro lp pre x W hlp hsp ⟨v', hS⟩ hcx
    have hx := RowIs.ofC hcx
    have o0 := hS.1.cell 0
    have of := hS.1.frozen 0
    simp only [List.getElem?_toArray, List.getElem?_cons_zero, List.getElem?_cons_succ] at o0
    have hlen : (ps ++ pre).length < 5000000000000 := by
      have := hsp.2.length_le
      rw [List.length_map, List.length_append, List.length_singleton] at this
      rw [List.length_append]; omega
    have HS := Lib.hid hS
    have HX := Lib.hid hx
    have hBW : B ≤ W.heap.size := by have := hS.2.2.2.2.2.1; omega
    have hsW : w.heap.size + 1 ≤ W.heap.size := hS.2.2.2.2.2.1
    obtain ⟨A2, c2, hv2, _⟩ := hx.reads
    obtain ⟨xv, xl⟩ := x
    dsimp only at hv2 HX ⊢
    subst hv2
    clear hS hx hcx hsp
    have hne : ∀ o : Obj, (W.alloc o).ownsRow B 33 1 v' (ps ++ pre).length ((ps ++ pre).map Prod.fst) := fun o => own_move HS.out.2.1 (fun k hk => Below.heap_alloc W o k (own_lt HS.out.2.1 k hk))
    have HNE := Lib.hid hne
    clear hne
    gi_wp2_with (gi_at_builtin; refine appendRow _ rfl (.tmp 8) (.tmp 10) rfl B v' (ps ++ pre).length ((ps ++ pre).map Prod.fst) rfl (HNE.out _) W.heap.size (.slice A2 xl.length c2) rfl rfl (by simp) hlen (by simp; omega) ?_; intro v2 w2 hrow hgrow hat; obtain ⟨hS2, hK1, hK2⟩ := HS.out.step (x := (.slice A2 xl.length c2, xl)) HX.out _ hrow hgrow hat; have HS2 := Lib.hid hS2; have HK1 := Lib.hid hK1; have HK2 := Lib.hid hK2; have hsz2 := hgrow.size; obtain ⟨A3, c3, rfl⟩ := own_form hrow; obtain ⟨t1, t2⟩ := HS.out.mid hgrow; clear hS2 hK1 hK2 hrow hgrow hat)
    rw [← List.length_append]
    exact ⟨HK1.out, HK2.out, _, HS2.out⟩
  case done =>
    rintro D xs W hD hxs ⟨v', hS⟩ hK hD2
    have o0 := hS.1.cell 0
    simp only [List.getElem?_toArray, List.getElem?_cons_zero, List.getElem?_cons_succ] at o0
    have hS2 := hS.own (grownBy_putObj' _ D (.deferred none)) (fun r e => by injection e with e; subst e; exact ⟨by omega, _, hK, rfl⟩)
    obtain ⟨A3, c3, rfl⟩ := own_form hS.2.1
    have HS := Lib.hid hS2
    have HK := Lib.hid hK
    have HXS := Lib.hid hxs
    clear hS hS2 hK hxs
    gi_wp2
    refine ⟨by simp, .inl ⟨_, _, rfl, run_takeDeferred HK.out, ?_⟩⟩
    obtain ⟨h1, h2, h3, h4, h5, _⟩ := HS.out
    refine ⟨_, results_tmp rfl _ _ _, _, rfl, xs, HXS.out, ⟨by rw [← List.length_append]; exact h2, fun q hq => ?_, ?_⟩, h5⟩
    · rcases List.mem_append.1 hq with hq | hq
      · exact h3 q hq
      · exact (h4 q hq).mono (by omega)
    · rw [List.pairwise_append]
      refine ⟨hsep, ?_, fun a ha b hb => parted_new hrows ((h4 b hb).mono (by omega)) a ha⟩
      have hnd : (xs.map Prod.snd).Nodup := by rw [HXS.out]; exact cyclesB_nodup n l size
      rw [List.nodup_iff_pairwise_ne, List.pairwise_map] at hnd
      refine List.Pairwise.imp_of_mem ?_ hnd
      intro a b ha hb hab
      refine RowIs.partedOf (h4 a ha) (h4 b hb) ?_ hab
      have e : ∀ x ∈ xs, x.2.length = size := fun x hx => cyclesB_len (n := n) (l := l) (by omega) (by rw [← HXS.out]; exact List.mem_map_of_mem hx)
      rw [e a ha, e b hb]
  case stop => exact fun _ _ _ _ _ _ h => h.elim
end Go.Proofs.Ytkefmlhkejoknab.L
