/- What Apart's closure finds in memory. -/
import Derived.Test.YtkefmlhkejoknabXUsed
import Derived.Test.YtkefmlhkejoknabP34
namespace Go.Proofs.Ytkefmlhkejoknab.L
set_option linter.unusedVariables false
set_option linter.unusedSimpArgs false
open Go.RowKit Go.Shelf Go.Proofs.YtkefmlhkejoknabW.PrintWords Go.Proofs.YtkefmlhkejoknabW.PrintLast Go.Proofs.YtkefmlhkejoknabW.PrintMore

/-- Rows of pairs stay. -/
def FrP (W W' : World) : Prop := ∀ (k : Nat) (cs : Array Value), W.heap[k]? = some (.cells cs 68 (0, 0)) → W'.heap[k]? = some (.cells cs 68 (0, 0))
theorem FrP.refl (W : World) : FrP W W := fun _ _ h => h
theorem FrP.trans {A B C : World} (h : FrP A B) (k : FrP B C) : FrP A C := fun i cs hi => k i cs (h i cs hi)
theorem FrP.below {W W' : World} (h : Below W.heap.size W W') : FrP W W' := fun k cs hk => (h.block k (Array.getElem?_eq_some_iff.1 hk).1).trans hk
theorem FrP.grown {W W' : World} {row : Option Nat} (hg : W.grownBy W' row) (hr : ∀ k, row = some k → ∀ cs, W.heap[k]? ≠ some (.cells cs 68 (0, 0))) : FrP W W' := fun k cs hk =>
  (hg.block k (Array.getElem?_eq_some_iff.1 hk).1 (fun e => hr k e.symm cs hk)).trans hk
/-- A row of pairs, wherever it lies. -/
def PairsAt (W : World) (v : Value) (ps : List (Int × Int)) : Prop := Kd.R kP 68 W 0 (fun _ => True) v ps
theorem PairsAt.fr {W W' : World} {v : Value} {ps : List (Int × Int)} (h : PairsAt W v ps) (hf : FrP W W') : PairsAt W' v ps := by
  refine Kd.R_mono (Kd.R_move (Kd.R_bound h) (fun k hk => ?_)) (fun _ hk => hk.1)
  obtain ⟨_, _, _, q, hq, cells, hc⟩ := hk
  obtain rfl : q = 68 := by simpa [kP, Kd.pair, Kd.int, Kd.scalar] using hq
  rw [hc, hf k _ hc]

def cloV (nB bB aB uB cB : Nat) : Value := .func (.func 28) #[] #[.pointer (some ⟨nB, 0, none⟩), .pointer (some ⟨bB, 0, none⟩), .pointer (some ⟨aB, 0, none⟩), .pointer (some ⟨uB, 0, none⟩), .pointer (some ⟨cB, 0, none⟩)]
def keysOf (l : List ACyc) : List (Int × Int) := l.flatMap fun q => endsB q.2
def ChV (w : World) (base nB bB aB uB cB mU B : Nat) (va : Value) (ps : List ACyc) (vn vb : Value) (nows bests : List ACyc) (ks : List (Int × Int)) (W : World) : Prop :=
  (Whole W nB 24 #[vn] ∧ Whole W bB 24 #[vb] ∧ Whole W aB 24 #[va] ∧ Whole W uB 61 #[.map (some mU)] ∧ Whole W cB 62 #[cloV nB bB aB uB cB]) ∧
  (W.ownsRow B 33 1 vn nows.length (nows.map Prod.fst) ∧ W.ownsRow B 33 1 vb bests.length (bests.map Prod.fst) ∧ RowsIs W B va ps) ∧
  MapK W mU ks ∧ Below base w W ∧ (Parted vn vb ∧ Parted vn va) ∧ (base ≤ nB ∧ base ≤ bB ∧ base ≤ mU ∧ base ≤ B ∧ B ≤ W.heap.size ∧ nB ≠ bB ∧ nB ≠ aB ∧ bB ≠ aB)
theorem own_init {W : World} {B k c : Nat} {A : Option Addr} {us : List Value} {u : Value} (h : W.ownsRow B 33 1 (.slice A (k + 1) c) (k + 1) (us ++ [u])) (hu : us.length = k) : W.ownsRow B 33 1 (.slice A k c) k us := by
  obtain ⟨h1, h | ⟨g, cap, cur, e, hb, hc, h2, h3, h4, h5⟩⟩ := h
  · exact absurd h.2 (by omega)
  · injection e with e1 e2 e3
    subst e1 e3
    refine ⟨by simp [hu], .inr ⟨g, c, cur, rfl, hb, hc, by omega, h3, h4, ?_⟩⟩
    rw [Nat.mul_one] at h5 ⊢
    have : (cur.toList.take (k + 1)).take k = (us ++ [u]).take k := by rw [h5]
    rw [List.take_take, Nat.min_eq_left (by omega), List.take_left' hu] at this
    exact this
section
variable {w : World} {base nB bB aB uB cB mU B : Nat} {va : Value} {ps : List ACyc} {vn vb vn' vb' : Value} {nows bests nows' bests' : List ACyc} {ks ks' : List (Int × Int)} {W W' : World}
theorem ChV.moveC (h : ChV w base nB bB aB uB cB mU B va ps vn vb nows bests ks W) (hk : ∀ (k : Nat) (cs : Array Value) (t : TypeId), W.heap[k]? = some (.cells cs t (0, 0)) → W'.heap[k]? = some (.cells cs t (0, 0))) (hm : MapK W' mU ks') (hb : Below base w W') (hs : W.heap.size ≤ W'.heap.size) :
    ChV w base nB bB aB uB cB mU B va ps vn vb nows bests ks' W' := by
  obtain ⟨⟨h1, h2, h3, h4, h5⟩, ⟨h6, h7, h8⟩, _, _, hp, hn⟩ := h
  have ho : ∀ {v : Value} {n : Nat} {us : List Value}, W.ownsRow B 33 1 v n us → W'.ownsRow B 33 1 v n us := fun h => own_move h (fun k e => by
    obtain ⟨cs, hc⟩ := own_typed h k e
    rw [hc, hk k _ _ hc])
  refine ⟨⟨hk _ _ _ h1, hk _ _ _ h2, hk _ _ _ h3, hk _ _ _ h4, hk _ _ _ h5⟩, ⟨ho h6, ho h7, ho h8.1, fun q hq => (h8.2.1 q hq).move (fun k e => ?_), h8.2.2⟩, hm, hb, hp, ?_⟩
  · obtain ⟨cs, hc⟩ := (h8.2.1 q hq).typed e
    rw [hc, hk k _ _ hc]
  · obtain ⟨n1, n2, n3, n4, n5, n6⟩ := hn
    exact ⟨n1, n2, n3, n4, by omega, n6⟩
theorem ChV.below (h : ChV w base nB bB aB uB cB mU B va ps vn vb nows bests ks W) (hb : Below W.heap.size W W') : ChV w base nB bB aB uB cB mU B va ps vn vb nows bests ks W' := by
  have hn := h.2.2.2.2.2
  exact h.moveC (fun k cs t hk => (hb.block k (Array.getElem?_eq_some_iff.1 hk).1).trans hk) (h.2.2.1.below hb) (below_then h.2.2.2.1 (by omega) hb) hb.size
theorem ChV.mapped (h : ChV w base nB bB aB uB cB mU B va ps vn vb nows bests ks W) (o : Obj) (hm : MapK (W.putObj mU o) mU ks') : ChV w base nB bB aB uB cB mU B va ps vn vb nows bests ks' (W.putObj mU o) := by
  have hn := h.2.2.2.2.2
  obtain ⟨es, ck, h9, _⟩ := h.2.2.1
  refine h.moveC (fun k cs t hk => (World.putObj_heap_other ?_).trans hk) hm (Below.putObj h.2.2.2.1 hn.2.2.1 _) (by simp)
  rintro rfl
  rw [h9] at hk; cases hk
theorem FrP.mapped (h : ChV w base nB bB aB uB cB mU B va ps vn vb nows bests ks W) (o : Obj) : FrP W (W.putObj mU o) := fun k cs hk => by
  obtain ⟨es, ck, h9, _⟩ := h.2.2.1
  refine (World.putObj_heap_other ?_).trans hk
  rintro rfl
  rw [h9] at hk; cases hk
theorem ChV.setBest (h : ChV w base nB bB aB uB cB mU B va ps vn vb nows bests ks W) (ho : W.ownsRow B 33 1 vb' bests'.length (bests'.map Prod.fst)) (hp : Parted vn vb') :
    ChV w base nB bB aB uB cB mU B va ps vn vb' nows bests' ks (W.setCell ⟨bB, 0, none⟩ vb') ∧ FrP W (W.setCell ⟨bB, 0, none⟩ vb') := by
  obtain ⟨⟨h1, h2, h3, h4, h5⟩, ⟨h6, h7, h8⟩, hm, hb, hpp, hn⟩ := h
  have hk : ∀ k, k ≠ bB → (W.setCell ⟨bB, 0, none⟩ vb').heap[k]? = W.heap[k]? := fun k hk => Below.heap_setCell W _ _ k hk
  have hty : ∀ {k : Nat} {cs : Array Value} {t : TypeId}, W.heap[k]? = some (.cells cs t (0, 0)) → t ≠ 24 → k ≠ bB := fun hc ht e => by
    subst e; rw [show W.heap[_]? = _ from h2] at hc; cases hc; exact ht rfl
  have hown : ∀ {v : Value} {n : Nat} {us : List Value}, W.ownsRow B 33 1 v n us → (W.setCell ⟨bB, 0, none⟩ vb').ownsRow B 33 1 v n us := fun h => own_move h (fun k e => by
    obtain ⟨cs, hc⟩ := own_typed h k e
    exact hk k (hty hc (by decide)))
  refine ⟨⟨⟨(hk _ hn.2.2.2.2.2.1).trans h1, by have := h2.set 0 vb'; simpa using this, (hk _ (Ne.symm hn.2.2.2.2.2.2.2)).trans h3, (hk _ (hty h4 (by decide))).trans h4, (hk _ (hty h5 (by decide))).trans h5⟩,
    ⟨hown h6, hown ho, hown h8.1, fun q hq => (h8.2.1 q hq).move (fun k e => ?_), h8.2.2⟩, hm.kept (hk _ ?_), Below.setAt hb hn.2.1 0 _, ⟨hp, hpp.2⟩, ?_⟩, fun k cs hc => (hk k (hty hc (by decide))).trans hc⟩
  · obtain ⟨cs, hc⟩ := (h8.2.1 q hq).typed e
    exact hk k (hty hc (by decide))
  · rintro rfl
    obtain ⟨es, ck, h9, _⟩ := hm
    rw [show W.heap[_]? = _ from h2] at h9; cases h9
  · have : (W.setCell ⟨bB, 0, none⟩ vb').heap.size = W.heap.size := by simp [World.setCell]
    rw [this]; exact hn
theorem ChV.setNow (h : ChV w base nB bB aB uB cB mU B va ps vn vb nows bests ks W) (ho : W.ownsRow B 33 1 vn' nows'.length (nows'.map Prod.fst)) (hp : Parted vn' vb ∧ Parted vn' va) :
    ChV w base nB bB aB uB cB mU B va ps vn' vb nows' bests ks (W.setCell ⟨nB, 0, none⟩ vn') ∧ FrP W (W.setCell ⟨nB, 0, none⟩ vn') := by
  obtain ⟨⟨h1, h2, h3, h4, h5⟩, ⟨h6, h7, h8⟩, hm, hb, hpp, hn⟩ := h
  have hk : ∀ k, k ≠ nB → (W.setCell ⟨nB, 0, none⟩ vn').heap[k]? = W.heap[k]? := fun k hk => Below.heap_setCell W _ _ k hk
  have hty : ∀ {k : Nat} {cs : Array Value} {t : TypeId}, W.heap[k]? = some (.cells cs t (0, 0)) → t ≠ 24 → k ≠ nB := fun hc ht e => by
    subst e; rw [show W.heap[_]? = _ from h1] at hc; cases hc; exact ht rfl
  have hown : ∀ {v : Value} {n : Nat} {us : List Value}, W.ownsRow B 33 1 v n us → (W.setCell ⟨nB, 0, none⟩ vn').ownsRow B 33 1 v n us := fun h => own_move h (fun k e => by
    obtain ⟨cs, hc⟩ := own_typed h k e
    exact hk k (hty hc (by decide)))
  refine ⟨⟨⟨by have := h1.set 0 vn'; simpa using this, (hk _ (Ne.symm hn.2.2.2.2.2.1)).trans h2, (hk _ (Ne.symm hn.2.2.2.2.2.2.1)).trans h3, (hk _ (hty h4 (by decide))).trans h4, (hk _ (hty h5 (by decide))).trans h5⟩,
    ⟨hown ho, hown h7, hown h8.1, fun q hq => (h8.2.1 q hq).move (fun k e => ?_), h8.2.2⟩, hm.kept (hk _ ?_), Below.setAt hb hn.1 0 _, hp, ?_⟩, fun k cs hc => (hk k (hty hc (by decide))).trans hc⟩
  · obtain ⟨cs, hc⟩ := (h8.2.1 q hq).typed e
    exact hk k (hty hc (by decide))
  · rintro rfl
    obtain ⟨es, ck, h9, _⟩ := hm
    rw [show W.heap[_]? = _ from h1] at h9; cases h9
  · have : (W.setCell ⟨nB, 0, none⟩ vn').heap.size = W.heap.size := by simp [World.setCell]
    rw [this]; exact hn
/-- A row more in now. -/
theorem ChV.append (h : ChV w base nB bB aB uB cB mU B va ps vn vb nows bests ks W) (q : ACyc) (ho : W'.ownsRow B 33 1 vn' (nows.length + 1) (nows.map Prod.fst ++ [q.1])) (hg : W.grownBy W' vn.ownBlock) (hat : vn'.ownBlock = vn.ownBlock ∨ ∃ b, vn'.ownBlock = some b ∧ W.heap.size ≤ b) :
    (W'.cell? ⟨nB, 0, none⟩ = some vn ∧ W'.frozen? ⟨nB, 0, none⟩ = false) ∧ ChV w base nB bB aB uB cB mU B va ps vn' vb (nows ++ [q]) bests ks (W'.setCell ⟨nB, 0, none⟩ vn') ∧ FrP W (W'.setCell ⟨nB, 0, none⟩ vn') := by
  obtain ⟨⟨h1, h2, h3, h4, h5⟩, ⟨h6, h7, h8⟩, hm, hb, hpp, hn⟩ := h
  have hty : ∀ {k : Nat} {o : Obj}, W.heap[k]? = some o → (∀ cs, o ≠ .cells cs 33 (0, 0)) → W'.heap[k]? = some o := fun {k o} hc ht => by
    refine (hg.block k (Array.getElem?_eq_some_iff.1 hc).1 (fun e => ?_)).trans hc
    obtain ⟨cs, h9⟩ := own_typed h6 k e.symm
    rw [hc] at h9; cases h9; exact ht _ rfl
  have hne : ∀ {v : Value} {n : Nat} {us : List Value}, W.ownsRow B 33 1 v n us → Parted vn v → W'.ownsRow B 33 1 v n us := fun h hp => own_move h (fun k e => hg.block k (own_lt h k e) (fun e2 => hp k e2.symm e))
  have hlt : ∀ {v : Value} {n : Nat} {us : List Value}, W.ownsRow B 33 1 v n us → Parted vn v → Parted vn' v := fun h hp k e e2 => by
    rcases hat with h9 | ⟨b, h9, h10⟩
    · exact hp k (h9 ▸ e) e2
    · rw [h9] at e; cases e
      have := own_lt h _ e2; omega
  have w1 : Whole W' nB 24 #[vn] := hty h1 (fun cs e => by cases e)
  have hV : ChV w base nB bB aB uB cB mU B va ps vn vb [] bests ks W' → True := fun _ => trivial
  have key : ChV w base nB bB aB uB cB mU B va ps vn' vb (nows ++ [q]) bests ks (W'.setCell ⟨nB, 0, none⟩ vn') ∧ FrP W' (W'.setCell ⟨nB, 0, none⟩ vn') := by
    have hk : ∀ k, k ≠ nB → (W'.setCell ⟨nB, 0, none⟩ vn').heap[k]? = W'.heap[k]? := fun k hk => Below.heap_setCell W' _ _ k hk
    have hty2 : ∀ {k : Nat} {cs : Array Value} {t : TypeId}, W'.heap[k]? = some (.cells cs t (0, 0)) → t ≠ 24 → k ≠ nB := fun hc ht e => by
      subst e; rw [show W'.heap[_]? = _ from w1] at hc; cases hc; exact ht rfl
    have hown : ∀ {v : Value} {n : Nat} {us : List Value}, W'.ownsRow B 33 1 v n us → (W'.setCell ⟨nB, 0, none⟩ vn').ownsRow B 33 1 v n us := fun h => own_move h (fun k e => by
      obtain ⟨cs, hc⟩ := own_typed h k e
      exact hk k (hty2 hc (by decide)))
    obtain ⟨es, ck, h9, he⟩ := hm
    have hm' : MapK W' mU ks := ⟨es, ck, hty h9 (fun cs e => by cases e), he⟩
    refine ⟨⟨⟨by have := w1.set 0 vn'; simpa using this, (hk _ (Ne.symm hn.2.2.2.2.2.1)).trans (hty h2 (fun cs e => by cases e)), (hk _ (Ne.symm hn.2.2.2.2.2.2.1)).trans (hty h3 (fun cs e => by cases e)),
      (hk _ (hty2 (hty h4 (fun cs e => by cases e)) (by decide))).trans (hty h4 (fun cs e => by cases e)), (hk _ (hty2 (hty h5 (fun cs e => by cases e)) (by decide))).trans (hty h5 (fun cs e => by cases e))⟩,
      ⟨?_, hown (hne h7 hpp.1), hown (hne h8.1 hpp.2), fun q hq => (h8.2.1 q hq).move (fun k e => ?_), h8.2.2⟩, hm'.kept (hk _ ?_), Below.setAt (hb.grown hg (by omega) (fun k e => Nat.le_trans hn.2.2.2.1 (own_base h6 k e))) hn.1 0 _, ⟨hlt h7 hpp.1, hlt h8.1 hpp.2⟩, ?_⟩, fun k cs hc => (hk k (hty2 hc (by decide))).trans hc⟩
    · rw [List.length_append, List.map_append]
      exact hown ho
    · obtain ⟨cs, hc⟩ := (h8.2.1 q hq).typed e
      have hc' := hty hc (fun cs e => by cases e)
      exact (hk k (hty2 hc' (by decide))).trans (hc'.trans hc.symm)
    · rintro rfl
      have := hty h9 (fun cs e => by cases e)
      rw [show W'.heap[_]? = _ from w1] at this; cases this
    · have : (W'.setCell ⟨nB, 0, none⟩ vn').heap.size = W'.heap.size := by simp [World.setCell]
      have h10 := hg.size
      rw [this]
      obtain ⟨n1, n2, n3, n4, n5, n6⟩ := hn
      exact ⟨n1, n2, n3, n4, by omega, n6⟩
  exact ⟨⟨w1.cell 0, w1.frozen 0⟩, key.1, FrP.trans (fun k cs hc => hty hc (fun cs e => by cases e)) key.2⟩
theorem ChV.facts (h : ChV w base nB bB aB uB cB mU B va ps vn vb nows bests ks W) :
    (W.cell? ⟨nB, 0, none⟩ = some vn ∧ W.frozen? ⟨nB, 0, none⟩ = false) ∧ (W.cell? ⟨bB, 0, none⟩ = some vb ∧ W.frozen? ⟨bB, 0, none⟩ = false) ∧ W.cell? ⟨aB, 0, none⟩ = some va ∧ W.cell? ⟨uB, 0, none⟩ = some (.map (some mU)) ∧ W.cell? ⟨cB, 0, none⟩ = some (.func (.func 28) #[] #[.pointer (some ⟨nB, 0, none⟩), .pointer (some ⟨bB, 0, none⟩), .pointer (some ⟨aB, 0, none⟩), .pointer (some ⟨uB, 0, none⟩), .pointer (some ⟨cB, 0, none⟩)]) ∧
    (nB < W.heap.size ∧ bB < W.heap.size ∧ aB < W.heap.size ∧ uB < W.heap.size ∧ cB < W.heap.size) := by
  obtain ⟨⟨h1, h2, h3, h4, h5⟩, _⟩ := h
  exact ⟨⟨h1.cell 0, h1.frozen 0⟩, ⟨h2.cell 0, h2.frozen 0⟩, h3.cell 0, h4.cell 0, h5.cell 0, h1.lt, h2.lt, h3.lt, h4.lt, h5.lt⟩
end
section
variable {P : Program} {ops : Array Oper} {md : Region.Mode} {Q : Exit → Act → World → Prop}
/-- An operation taken first, the frame written out anew. -/
theorem takeP {i : Nat} {oi : Oper} {v : Value} {fuel : Nat} {listed : Array Bool} {a a' : Act} {w : World} (hi : ops[i]? = some oi)
    (hs : Region.noSelect ops = true) (hf : Region.free md ops listed i = true) (hr : (Region.ready md ops listed).contains i = true)
    (hQ : ∀ c a w, Q (.panic c) (a.put oi.dst v) w → Q (.panic c) a w) (hy : Yields P ops oi v a) (ha : a.put oi.dst v = a')
    (h : wpAny P md ops Q fuel (listed.setIfInBounds i true) a' w) : wpAny P md ops Q (fuel + 1) listed a w := by
  subst ha
  exact wpAny_take hi hs hf hr hQ hy h
end
end Go.Proofs.Ytkefmlhkejoknab.L
