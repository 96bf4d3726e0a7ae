/- BeltOwn (4): the walk, by hand. -/
import Derived.Test.YtkefmlhkejoknabXApart
import Derived.Test.YtkefmlhkejoknabXCheck
import Derived.Test.YtkefmlhkejoknabXGains
import Derived.Test.YtkefmlhkejoknabXSwitch
import Derived.Test.YtkefmlhkejoknabXValues
import Derived.Test.YtkefmlhkejoknabXTame
import Derived.Test.YtkefmlhkejoknabL2
import Derived.Test.YtkefmlhkejoknabL3
import Derived.Test.YtkefmlhkejoknabL9
namespace Go.Proofs.Ytkefmlhkejoknab.L
set_option linter.unusedVariables false
set_option linter.unusedSimpArgs false
open Go.RowKit Go.Shelf Go.Proofs.YtkefmlhkejoknabW.PrintWords Go.Proofs.YtkefmlhkejoknabW.PrintLast Go.Proofs.YtkefmlhkejoknabW.PrintMore

/-- A row of one's own, from B on, with room for n elements. -/
def RowB (B : Nat) (t : TypeId) (sz : Nat) (v : Value) (n : Nat) (W : World) : Prop := (v = .slice none 0 0 ∧ n = 0) ∨ ∃ g cap cur, v = .slice (some ⟨g, 0, none⟩) n cap ∧ B ≤ g ∧ Whole W g t cur ∧ n * sz ≤ cur.size
theorem RowB.of {B sz n : Nat} {t : TypeId} {v : Value} {W : World} {us : List Value} (h : W.ownsRow B t sz v n us) : RowB B t sz v n W := by
  obtain ⟨h0, h | ⟨g, cap, cur, rfl, hb, hc, h1, h2, h3, h4⟩⟩ := h
  · exact .inl h
  · exact .inr ⟨g, cap, cur, rfl, hb, hc, by rw [h3]; exact Nat.mul_le_mul_right _ h1⟩
theorem RowB.below {B sz n : Nat} {t : TypeId} {v : Value} {W W' : World} (h : RowB B t sz v n W) (hb : Below W.heap.size W W') : RowB B t sz v n W' := by
  rcases h with h | ⟨g, cap, cur, rfl, h1, h2, h3⟩
  · exact .inl h
  · exact .inr ⟨g, cap, cur, rfl, h1, h2.below hb h2.lt, h3⟩
theorem RowB.mono {B B' sz n : Nat} {t : TypeId} {v : Value} {W : World} (h : RowB B t sz v n W) (hb : B' ≤ B) : RowB B' t sz v n W := by
  rcases h with h | ⟨g, cap, cur, rfl, h1, h2, h3⟩
  · exact .inl h
  · exact .inr ⟨g, cap, cur, rfl, by omega, h2, h3⟩
theorem RowB.put {B sz n : Nat} {t : TypeId} {v : Value} {W : World} (h : RowB B t sz v n W) (b i : Nat) (x : Value) : RowB B t sz v n (W.setCell ⟨b, i, none⟩ x) := by
  rcases h with h | ⟨g, cap, cur, rfl, h1, h2, h3⟩
  · exact .inl h
  · by_cases e : g = b
    · subst e
      exact .inr ⟨g, cap, _, rfl, h1, h2.set i x, by simpa using h3⟩
    · exact .inr ⟨g, cap, cur, rfl, h1, h2.far (p := ⟨b, i, none⟩) e x, h3⟩
theorem RowB.size {W : World} {b i : Nat} {x : Value} : (W.setCell ⟨b, i, none⟩ x).heap.size = W.heap.size := by simp [World.setCell]
/-- A list of rows of numbers, each of one's own. -/
def RowsB (B : Nat) (v : Value) (vs : List Value) (ns : List Nat) (W : World) : Prop := W.ownsRow B 33 1 v vs.length vs ∧ ns.length = vs.length ∧ ∀ (q : Nat) (u : Value) (n : Nat), vs[q]? = some u → ns[q]? = some n → RowB B 3 1 u n W
theorem own_at_below {W W' : World} {B n : Nat} {v : Value} {us : List Value} (h : W.ownsRow B 33 1 v n us) (hb : Below W.heap.size W W') : W'.ownsRow B 33 1 v n us := own_move h (fun k hk => hb.block k (own_lt h k hk))
theorem RowsB.below {B : Nat} {v : Value} {vs : List Value} {ns : List Nat} {W W' : World} (h : RowsB B v vs ns W) (hb : Below W.heap.size W W') : RowsB B v vs ns W' := ⟨own_at_below h.1 hb, h.2.1, fun q u n h1 h2 => (h.2.2 q u n h1 h2).below hb⟩
theorem own_put {W : World} {B n : Nat} {v : Value} {us : List Value} (h : W.ownsRow B 33 1 v n us) {b i : Nat} {t : TypeId} {cs : Array Value} (hb : Whole W b t cs) (ht : t ≠ 33) (x : Value) : (W.setCell ⟨b, i, none⟩ x).ownsRow B 33 1 v n us := own_move h (fun k hk => by
  obtain ⟨cs', hc⟩ := own_typed h k hk
  refine Below.heap_setCell W _ _ k ?_
  rintro rfl
  rw [show W.heap[_]? = _ from hb] at hc
  cases hc
  exact ht rfl)
theorem RowsB.put {B : Nat} {v : Value} {vs : List Value} {ns : List Nat} {W : World} (h : RowsB B v vs ns W) {b i : Nat} {t : TypeId} {cs : Array Value} (hb : Whole W b t cs) (ht : t ≠ 33) (x : Value) : RowsB B v vs ns (W.setCell ⟨b, i, none⟩ x) := ⟨own_put h.1 hb ht x, h.2.1, fun q u n h1 h2 => (h.2.2 q u n h1 h2).put b i x⟩
/-- What Apart hands over. -/
theorem RowsB.of {B base : Nat} {v : Value} {cs : List (List Int)} {W : World} (h : Kd.S (Kd.slice 3 (Kd.int .i64)) 33 W base (fun _ => True) v cs) (hb : B ≤ base) : ∃ vs, vs.length = cs.length ∧ RowsB B v vs (cs.map List.length) W := by
  obtain ⟨_, inner, ho, hr⟩ := Kd.S_R h
  have hl : inner.length = cs.length := by have := ho.1; rw [this]; exact Nat.mul_one _
  refine ⟨inner, hl, by rw [hl]; exact own_weaken ho hb, by rw [List.length_map, hl], fun q u n h1 h2 => ?_⟩
  rw [List.getElem?_map, Option.map_eq_some_iff] at h2
  obtain ⟨c, hc, rfl⟩ := h2
  obtain ⟨v', hv', hR⟩ := hr.2 q c hc
  have hq := (List.getElem?_eq_some_iff.1 h1).1
  have e : u = v' := by
    have h3 : (inner.drop (q * 1)).take 1 = [v'] := hv'
    rw [Nat.mul_one, List.drop_eq_getElem_cons hq, List.take_succ_cons, List.take_zero] at h3
    have h4 := (List.getElem?_eq_some_iff.1 h1).2
    rw [← h4]
    exact (List.cons.inj h3).1
  subst e
  exact (RowB.of (Kd.own_of_R hR)).mono hb
/-- All that the law has made. -/
structure OwnS (w3 : World) (vo : Value) (no : Nat) (vc : Value) (vs : List Value) (ns : List Nat) (vp : Value) (np : Nat) (vv : Value) (nv : Nat) (W : World) : Prop where
  bel : Below w3.heap.size w3 W
  o : RowB w3.heap.size 46 3 vo no W
  c : RowsB w3.heap.size vc vs ns W
  p : RowB w3.heap.size 3 1 vp np W
  v : RowB w3.heap.size 3 1 vv nv W
theorem OwnS.below {w3 : World} {vo : Value} {no : Nat} {vc : Value} {vs : List Value} {ns : List Nat} {vp : Value} {np : Nat} {vv : Value} {nv : Nat} {W W' : World} (h : OwnS w3 vo no vc vs ns vp np vv nv W) (hb : Below W.heap.size W W') : OwnS w3 vo no vc vs ns vp np vv nv W' :=
  ⟨h.bel.trans (hb.mono h.bel.size), h.o.below hb, h.c.below hb, h.p.below hb, h.v.below hb⟩
theorem OwnS.put {w3 : World} {vo : Value} {no : Nat} {vc : Value} {vs : List Value} {ns : List Nat} {vp : Value} {np : Nat} {vv : Value} {nv : Nat} {W : World} (h : OwnS w3 vo no vc vs ns vp np vv nv W) {b i : Nat} {t : TypeId} {cs : Array Value} (hb : Whole W b t cs) (ht : t ≠ 33) (hB : w3.heap.size ≤ b) (x : Value) : OwnS w3 vo no vc vs ns vp np vv nv (W.setCell ⟨b, i, none⟩ x) :=
  ⟨Below.setAt h.bel hB i x, h.o.put b i x, h.c.put hb ht x, h.p.put b i x, h.v.put b i x⟩
theorem ne46 : (46 : TypeId) ≠ 33 := by decide
theorem ne3 : (3 : TypeId) ≠ 33 := by decide
/-- An edge is written. -/
theorem OwnS.edge {w3 : World} {Ao : Option Addr} {no co : Nat} {vc : Value} {vs : List Value} {ns : List Nat} {vp : Value} {np : Nat} {vv : Value} {nv : Nat} {W : World} (h : OwnS w3 (.slice Ao no co) no vc vs ns vp np vv nv W) {q : Nat} (hq : q < no) (x y z : Value) :
    ∃ b, Ao = some ⟨b, 0, none⟩ ∧ (∃ u0 u1 u2, W.cell? ⟨b, q * 3, none⟩ = some u0 ∧ W.cell? ⟨b, q * 3 + 1, none⟩ = some u1 ∧ W.cell? ⟨b, q * 3 + 2, none⟩ = some u2) ∧ (W.frozen? ⟨b, q * 3, none⟩ = false ∧ W.frozen? ⟨b, q * 3 + 1, none⟩ = false ∧ W.frozen? ⟨b, q * 3 + 2, none⟩ = false) ∧
      OwnS w3 (.slice Ao no co) no vc vs ns vp np vv nv (((W.setCell ⟨b, q * 3, none⟩ x).setCell ⟨b, q * 3 + 1, none⟩ y).setCell ⟨b, q * 3 + 2, none⟩ z) := by
  rcases h.o with ⟨_, h0⟩ | ⟨b, cap, cur, e, h1, h2, h3⟩
  · omega
  · injection e with e1 _ _
    subst e1
    have hk : ∀ i, i < 3 → ∃ u, W.cell? ⟨b, q * 3 + i, none⟩ = some u := fun i hi => by
      have : q * 3 + i < cur.size := by omega
      exact ⟨cur[q * 3 + i], by rw [h2.cell]; simp [this]⟩
    obtain ⟨u0, k0⟩ := hk 0 (by omega)
    obtain ⟨u1, k1⟩ := hk 1 (by omega)
    obtain ⟨u2, k2⟩ := hk 2 (by omega)
    have w1 := h2.set (q * 3) x
    have w2 := w1.set (q * 3 + 1) y
    exact ⟨b, rfl, ⟨u0, u1, u2, k0, k1, k2⟩, ⟨h2.frozen _, h2.frozen _, h2.frozen _⟩, ((h.put h2 ne46 h1 x).put w1 ne46 h1 y).put w2 ne46 h1 z⟩
/-- A list of rows behind a row of rows. -/
theorem appendOwn (w : World) {ops : Array Oper} {rest : List Oper} {o : Oper} {a : Act} {Q : Exit → Act → World → Prop}
    (hg : o.guard = none) (s x : Operand) (hop : o.op = Op.call { callee := Callee.builtin Builtin.append, args := #[s, x], argTypes := #[24, 24] })
    (B : Nat) (v : Value) (k : Nat) (us : List Value) (hs : a.eval s = v) (hown : w.ownsRow B 33 1 v k us) (B2 : Nat) (vx : Value) (n : Nat) (ys : List Value) (hx : a.eval x = vx) (hox : w.ownsRow B2 33 1 vx n ys)
    (hu : ∀ u ∈ ys, u.oneCell' = true) (hl : k + n < 5000000000000) (hB : B ≤ w.heap.size)
    (hK : ∀ v' w', w'.ownsRow B 33 1 v' (k + n) (us ++ ys) → w.grownBy w' v.ownBlock → (v'.ownBlock = v.ownBlock ∨ v'.ownBlock = some w.heap.size) → wpList Try.prog ops Q rest (a.put o.dst v') w') :
    wpList Try.prog ops Q (o :: rest) a w := by
  have hyl : ys.length = n := by have := hox.1; omega
  have hcell := fun (ad : Addr) (m c : Nat) (e : vx = .slice (some ad) m c) => (show w.ownsRow B2 33 1 (.slice (some ad) m c) n ys from e ▸ hox).cells rfl
  rcases hox.2 with ⟨e, h0⟩ | ⟨g, cap, cur, e, _⟩
  · subst h0
    obtain rfl : ys = [] := List.length_eq_zero_iff.1 hyl
    obtain ⟨i3, hi3, _⟩ := info_parts info33
    refine wpList_append_own_none hg s x 24 hop B 33 i3 1 Try.underlying24 hi3 v k us hs hown (by rw [hx, e]) ?_
    exact hK v w (by simpa using hown) (grown_of_below (Below.refl _ _) _) (.inl rfl)
  · exact appendAll w hg s x hop B v k us hs hown ⟨g, 0, none⟩ n cap ys hyl (by rw [hx, e]) (hcell _ _ _ e) hu hl hB hK
theorem RowB.one {B sz n : Nat} {t : TypeId} {v : Value} {W : World} (h : RowB B t sz v n W) : v.oneCell' = true := by
  rcases h with ⟨rfl, _⟩ | ⟨g, cap, cur, rfl, _⟩ <;> rfl
theorem RowsB.one {B : Nat} {v : Value} {vs : List Value} {ns : List Nat} {W : World} (h : RowsB B v vs ns W) : ∀ u ∈ vs, u.oneCell' = true := by
  intro u hu
  obtain ⟨q, hq, rfl⟩ := List.mem_iff_getElem.1 hu
  have hq2 : q < ns.length := by rw [h.2.1]; exact hq
  exact (h.2.2 q _ _ (List.getElem?_eq_getElem hq) (List.getElem?_eq_getElem hq2)).one
/-- The rows that are to be written. -/
structure OwnL (w3 : World) (av : Value) (vs : List Value) (ns : List Nat) (W : World) : Prop where
  bel : Below w3.heap.size w3 W
  a : RowsB w3.heap.size av vs ns W
theorem OwnL.put {w3 : World} {av : Value} {vs : List Value} {ns : List Nat} {W : World} (h : OwnL w3 av vs ns W) {q k n c : Nat} {A : Option Addr} (hv : vs[q]? = some (.slice A n c)) (hn : ns[q]? = some n) (hk : k < n) (x : Value) :
    ∃ b, A = some ⟨b, 0, none⟩ ∧ (∃ u, W.cell? ⟨b, k, none⟩ = some u) ∧ W.frozen? ⟨b, k, none⟩ = false ∧ OwnL w3 av vs ns (W.setCell ⟨b, k, none⟩ x) := by
  rcases h.a.2.2 q _ _ hv hn with ⟨_, h0⟩ | ⟨b, cap, cur, e, h1, h2, h3⟩
  · omega
  · injection e with e1 _ _
    subst e1
    have hlt : k < cur.size := by omega
    exact ⟨b, rfl, ⟨cur[k], by rw [h2.cell]; simp [hlt]⟩, h2.frozen _, Below.setAt h.bel h1 k x, h.a.put h2 ne3 x⟩
theorem OwnL.form {w3 : World} {av : Value} {vs : List Value} {ns : List Nat} {W : World} (h : OwnL w3 av vs ns W) {q : Nat} {u : Value} {n : Nat} (hv : vs[q]? = some u) (hn : ns[q]? = some n) : ∃ A c, u = .slice A n c := by
  rcases h.a.2.2 q _ _ hv hn with ⟨rfl, h0⟩ | ⟨b, cap, cur, e, _⟩
  · exact ⟨none, 0, by rw [h0]⟩
  · exact ⟨_, _, e⟩
theorem OwnL.cell {w3 : World} {Al : Option Addr} {L cl : Nat} {vs : List Value} {ns : List Nat} {W : World} (h : OwnL w3 (.slice Al L cl) vs ns W) {q : Nat} {u : Value} (hv : vs[q]? = some u) : ∃ b, Al = some ⟨b, 0, none⟩ ∧ L = vs.length ∧ W.cell? ⟨b, q, none⟩ = some u := by
  have hq := (List.getElem?_eq_some_iff.1 hv).1
  have hc := fun (ad : Addr) (m c : Nat) (e : Value.slice Al L cl = .slice (some ad) m c) => (show W.ownsRow w3.heap.size 33 1 (.slice (some ad) m c) vs.length vs from e ▸ h.a.1).cells rfl
  rcases h.a.1.2 with ⟨_, h0⟩ | ⟨g, cap, cur, e, _⟩
  · omega
  · have := hc _ _ _ e q u hv
    rw [addr_at] at this
    injection e with e1 e2 _
    exact ⟨g, e1, e2, this⟩
theorem own_two (w : World) (a b : Value) : (w.alloc (.cells #[a, b] 33)).ownsRow w.heap.size 33 1 (.slice (some ⟨w.heap.size, 0, none⟩) 2 2) 2 [a, b] :=
  ⟨rfl, .inr ⟨w.heap.size, 2, _, rfl, Nat.le_refl _, World.alloc_heap_new w _, Nat.le_refl _, by unfold maxLen; omega, rfl, rfl⟩⟩
theorem own_zero (w : World) : (w.alloc (.cells #[] 33)).ownsRow w.heap.size 33 1 (.slice (some ⟨w.heap.size, 0, none⟩) 0 0) 0 [] :=
  ⟨rfl, .inr ⟨w.heap.size, 0, #[], rfl, Nat.le_refl _, World.alloc_heap_new w _, Nat.le_refl _, by simp [maxLen], rfl, rfl⟩⟩
theorem OwnL.of {w3 : World} {vo : Value} {no : Nat} {vc : Value} {vs : List Value} {ns : List Nat} {vp : Value} {np : Nat} {vv : Value} {nv : Nat} {W W' : World} {av : Value} (h : OwnS w3 vo no vc vs ns vp np vv nv W) (hb : Below W.heap.size W W') (hown : W'.ownsRow W.heap.size 33 1 av (vs.length + 2) (vs ++ [vp, vv])) :
    OwnL w3 av (vs ++ [vp, vv]) (ns ++ [np, nv]) W' := by
  refine ⟨h.bel.trans (hb.mono h.bel.size), ?_, by simp [h.c.2.1], fun q u n h1 h2 => ?_⟩
  · have := own_weaken hown h.bel.size
    simpa using this
  · have hl := h.c.2.1
    by_cases hq : q < vs.length
    · rw [List.getElem?_append_left hq] at h1
      rw [List.getElem?_append_left (by omega)] at h2
      exact (h.c.2.2 q u n h1 h2).below hb
    · rw [List.getElem?_append_right (by omega)] at h1
      rw [List.getElem?_append_right (by omega), hl] at h2
      have hj : q - vs.length = 0 ∨ q - vs.length = 1 := by
        have := (List.getElem?_eq_some_iff.1 h1).1
        simp at this
        omega
      rcases hj with e | e
      · rw [e] at h1 h2
        simp at h1 h2
        subst h1; subst h2
        exact h.p.below hb
      · rw [e] at h1 h2
        simp at h1 h2
        subst h1; subst h2
        exact h.v.below hb
theorem OwnL.at {w3 : World} {bl L cl : Nat} {vs : List Value} {ns : List Nat} {W : World} (h : OwnL w3 (.slice (some ⟨bl, 0, none⟩) L cl) vs ns W) {q : Nat} {u : Value} (hv : vs[q]? = some u) : W.cell? ⟨bl, q, none⟩ = some u := by
  obtain ⟨b, e, _, hc⟩ := h.cell hv
  cases e
  exact hc
end Go.Proofs.Ytkefmlhkejoknab.L
