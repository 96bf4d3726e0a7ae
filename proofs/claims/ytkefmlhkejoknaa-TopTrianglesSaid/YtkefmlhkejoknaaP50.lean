/- Plain law: what TopTriangles leans on (lines of P1 to P37). -/
import Derived.Test.YtkefmlhkejoknaaXOdd
namespace Go.Proofs.Ytkefmlhkejoknaa.L
set_option linter.unusedVariables false
set_option linter.unusedSimpArgs false
open Go.RowKit Go.Proofs.YtkefmlhkejoknaaW.PrintWords Go.Proofs.YtkefmlhkejoknaaW.PrintLast Go.Proofs.YtkefmlhkejoknaaW.PrintMore

/-- From some figure on, it is r. -/
def Ev {α : Type} (g : Nat → Option α) (r : α) : Prop := ∃ K, ∀ k, K ≤ k → g k = some r
theorem Ev.const {α : Type} (r : α) : Ev (fun _ => some r) r := ⟨0, fun _ _ => rfl⟩
theorem Ev.step {α : Type} {g h : Nat → Option α} {r : α} (he : ∀ k, g (k + 1) = h k) (hh : Ev h r) : Ev g r := by
  obtain ⟨K, hK⟩ := hh
  refine ⟨K + 1, fun k hk => ?_⟩
  obtain ⟨j, rfl⟩ : ∃ j, k = j + 1 := ⟨k - 1, by omega⟩
  rw [he]; exact hK j (by omega)
theorem Ev.bind {α β : Type} {g : Nat → Option α} {h : Nat → α → Option β} {a : α} {b : β} (hg : Ev g a) (hh : Ev (fun k => h k a) b) : Ev (fun k => (g k).bind (h k)) b := by
  obtain ⟨K, hK⟩ := hg
  obtain ⟨M, hM⟩ := hh
  refine ⟨K + M, fun k hk => ?_⟩
  show (g k).bind (h k) = some b
  rw [hK k (by omega)]
  exact hM k (by omega)
theorem Ev.congr {α : Type} {g h : Nat → Option α} {r : α} (he : ∀ k, g k = h k) (hh : Ev h r) : Ev g r := by
  obtain ⟨K, hK⟩ := hh
  exact ⟨K, fun k hk => (he k).trans (hK k hk)⟩
theorem Ev.get {α : Type} {g : Nat → Option α} {r : α} (h : Ev g r) : ∃ k, g k = some r := by
  obtain ⟨K, hK⟩ := h
  exact ⟨K, hK K (Nat.le_refl _)⟩
theorem wrap64_id (x : Int) (h1 : -9223372036854775808 ≤ x) (h2 : x ≤ 9223372036854775807) : wrap64 x = x := by
  unfold wrap64; omega

/-- The edge at a place. -/
theorem rd_at (l : List S49) (i : Nat) (h : i < l.length) : rd_T49 l (i : Int) = l[i] := by simp [rd_T49, List.getElem?_eq_getElem h]

/-- The sides of the first half are the proper ones. -/
theorem proper_half (N s : Nat) (h0 : 1 ≤ N) (hs : s < 2 ^ (N - 1)) : properB (N : Int) s = true := by
  have e : ((N : Int) - 1 - 0).toNat = N - 1 := by omega
  rw [properB, hasB, e, Nat.testBit_lt_two_pow hs]; rfl
theorem proper_not (N s : Nat) (h0 : 1 ≤ N) (h1 : 2 ^ (N - 1) ≤ s) (h2 : s < 2 ^ N) : properB (N : Int) s = false := by
  have e : ((N : Int) - 1 - 0).toNat = N - 1 := by omega
  obtain ⟨t, rfl⟩ : ∃ t, s = 2 ^ (N - 1) + t := ⟨s - 2 ^ (N - 1), by omega⟩
  have h3 : 2 ^ N = 2 ^ (N - 1) + 2 ^ (N - 1) := by
    obtain ⟨m, rfl⟩ : ∃ m, N = m + 1 := ⟨N - 1, by omega⟩
    rw [Nat.pow_succ]; simp; omega
  rw [properB, hasB, e, Nat.testBit_two_pow_add_eq, Nat.testBit_lt_two_pow (by omega)]; rfl
/-- Every edge is cut. -/
def allCut (n : Int) (l : List S49) (s : Nat) : Bool := l.all fun e => cutB n s e
theorem has_flip (N t : Nat) (ht : t < 2 ^ N) (v : Int) (h0 : 0 ≤ v) (h1 : v < N) : hasB N (2 ^ N - (t + 1)) v = !hasB N t v := by
  rw [hasB, Nat.testBit_two_pow_sub_succ ht, decide_eq_true (by omega), Bool.true_and, hasB]
theorem mem_edge {n : Int} {l : List S49} (hE : EdgesIn n l) {e : S49} (he : e ∈ l) : 0 ≤ e.f0 ∧ e.f0 < n ∧ 0 ≤ e.f1 ∧ e.f1 < n := by
  obtain ⟨i, hi, rfl⟩ := List.getElem_of_mem he
  have := hE i hi
  rw [rd_at l i hi] at this
  exact ⟨this.1, this.2.1, this.2.2.1, this.2.2.2.1⟩
theorem allCut_flip (N t : Nat) (ht : t < 2 ^ N) (l : List S49) (hE : EdgesIn N l) (h : allCut N l t = true) : allCut N l (2 ^ N - (t + 1)) = true := by
  unfold allCut at h ⊢
  rw [List.all_eq_true] at h ⊢
  intro e he
  have hb := mem_edge hE he
  have := h e he
  rw [cutB] at this ⊢
  rw [has_flip N t ht _ hb.1 hb.2.1, has_flip N t ht _ hb.2.2.1 hb.2.2.2]
  cases h1 : hasB N t e.f0 <;> cases h2 : hasB N t e.f1 <;> rw [h1, h2] at this <;> simp_all
theorem even_all (N : Nat) (h0 : 1 ≤ N) (l : List S49) (hE : EdgesIn N l) : evenB N l = (List.range (2 ^ N)).find? fun s => allCut N l s := by
  have h3 : 2 ^ N = 2 ^ (N - 1) + 2 ^ (N - 1) := by
    obtain ⟨m, rfl⟩ : ∃ m, N = m + 1 := ⟨N - 1, by omega⟩
    rw [Nat.pow_succ]; simp; omega
  have hsmall : ∀ t, t < 2 ^ N → allCut N l t = true → ∃ u, u ≤ t ∧ u < 2 ^ (N - 1) ∧ allCut N l u = true := by
    intro t ht hc
    by_cases c : t < 2 ^ (N - 1)
    · exact ⟨t, Nat.le_refl _, c, hc⟩
    · exact ⟨2 ^ N - (t + 1), by omega, by omega, allCut_flip N t ht l hE hc⟩
  unfold evenB
  rw [Int.toNat_natCast]
  cases hf : (List.range (2 ^ N)).find? (fun s => properB N s && l.all fun e => cutB N s e) with
  | none =>
    rw [List.find?_eq_none] at hf
    symm
    rw [List.find?_eq_none]
    intro t ht hc
    obtain ⟨u, hu, hu2, hc2⟩ := hsmall t (by simpa using ht) hc
    have := hf u (by simp; omega)
    rw [proper_half N u h0 hu2, Bool.true_and] at this
    exact this hc2
  | some s =>
    rw [List.find?_range_eq_some] at hf
    obtain ⟨h1, h2, h4⟩ := hf
    simp only [Bool.and_eq_true] at h1
    symm
    rw [List.find?_range_eq_some]
    refine ⟨h1.2, h2, fun t ht => ?_⟩
    by_cases hc : allCut N l t = true
    · exfalso
      have hs : s < 2 ^ (N - 1) := by
        by_cases c : s < 2 ^ (N - 1)
        · exact c
        · have := proper_not N s h0 (by omega) (by simpa using h2)
          rw [this] at h1; cases h1.1
      have := h4 t ht
      rw [proper_half N t h0 (by omega)] at this
      rw [allCut] at hc
      rw [hc] at this
      cases this
    · simpa using hc

/-- A walk of k steps. -/
def Tr (J : Int → Int → Prop) (k : Nat) (a b : Int) : Prop := ∃ p : Nat → Int, p 0 = a ∧ p k = b ∧ ∀ i, i < k → J (p i) (p (i + 1))
theorem Tr.nil (J : Int → Int → Prop) (a : Int) : Tr J 0 a a := ⟨fun _ => a, rfl, rfl, fun i h => by omega⟩
theorem Tr.one {J : Int → Int → Prop} {a b : Int} (h : J a b) : Tr J 1 a b := ⟨fun i => if i = 0 then a else b, rfl, rfl, fun i hi => by
  obtain rfl : i = 0 := by omega
  exact h⟩
/-- An odd cycle has no two colors. -/
theorem cycle_uncut (k : Nat) (hk : k % 2 = 1) (c : Nat → Bool) (hc : c k = c 0) : ∃ i, i < k ∧ c i = c (i + 1) := by
  by_cases h : ∃ i, i < k ∧ c i = c (i + 1)
  · exact h
  · exfalso
    have h' : ∀ i, i < k → c (i + 1) = !c i := fun i hi => by
      have : ¬ c i = c (i + 1) := fun e => h ⟨i, hi, e⟩
      cases h1 : c i <;> cases h2 : c (i + 1) <;> simp_all
    have : ∀ i, i ≤ k → c i = (c 0 ^^ decide (i % 2 = 1)) := by
      intro i
      induction i with
      | zero => intro _; simp
      | succ i ih =>
        intro hi
        rw [h' i (by omega), ih (by omega)]
        by_cases e : i % 2 = 1
        · rw [decide_eq_true e, decide_eq_false (by omega)]; cases c 0 <;> rfl
        · rw [decide_eq_false e, decide_eq_true (by omega)]; cases c 0 <;> rfl
    have := this k (Nat.le_refl _)
    rw [hc, decide_eq_true hk] at this
    cases h0 : c 0 <;> rw [h0] at this <;> cases this

/-- Joined. -/
def JB (l : List S49) (a b : Int) : Prop := joinedB l a b = true
theorem hasEdge_iff (l : List S49) (a b : Int) : hasEdge l a b = true ↔ ∃ e ∈ l, e.f0 = a ∧ e.f1 = b := by
  simp [hasEdge, List.any_eq_true, and_comm]
theorem JB_iff (l : List S49) (a b : Int) : JB l a b ↔ ∃ e ∈ l, (e.f0 = a ∧ e.f1 = b ∧ a ≤ b) ∨ (e.f0 = b ∧ e.f1 = a ∧ b ≤ a) := by
  unfold JB joinedB
  rw [hasEdge_iff]
  constructor
  · rintro ⟨e, he, h0, h1⟩
    refine ⟨e, he, ?_⟩
    by_cases c : a ≤ b
    · rw [if_pos c] at h0 h1; exact .inl ⟨h0, h1, c⟩
    · rw [if_neg c] at h0 h1; exact .inr ⟨h0, h1, by omega⟩
  · rintro ⟨e, he, ⟨h0, h1, c⟩ | ⟨h0, h1, c⟩⟩
    · exact ⟨e, he, by rw [if_pos c]; exact h0, by rw [if_pos c]; exact h1⟩
    · by_cases c' : a ≤ b
      · exact ⟨e, he, by rw [if_pos c']; omega, by rw [if_pos c']; omega⟩
      · exact ⟨e, he, by rw [if_neg c']; exact h0, by rw [if_neg c']; exact h1⟩
theorem JB_symm (l : List S49) (a b : Int) (h : JB l a b) : JB l b a := by
  rw [JB_iff] at h ⊢
  obtain ⟨e, he, h | h⟩ := h
  · exact ⟨e, he, .inr h⟩
  · exact ⟨e, he, .inl h⟩
/-- The edges run upwards, within the vertices. -/
def UpIn (n : Int) (l : List S49) : Prop := ∀ e ∈ l, 0 ≤ e.f0 ∧ e.f0 < e.f1 ∧ e.f1 < n
/-- A number with given bits. -/
def bitsN (f : Nat → Bool) : Nat → Nat
  | 0 => 0
  | k + 1 => if f k then 2 ^ k + bitsN f k else bitsN f k
theorem bitsN_lt (f : Nat → Bool) (k : Nat) : bitsN f k < 2 ^ k := by
  induction k with
  | zero => simp [bitsN]
  | succ k ih =>
    rw [bitsN, Nat.pow_succ]
    split <;> omega
theorem bitsN_test (f : Nat → Bool) (k i : Nat) (h : i < k) : (bitsN f k).testBit i = f i := by
  induction k with
  | zero => omega
  | succ k ih =>
    rw [bitsN]
    by_cases e : i = k
    · subst e
      cases c : f i
      · rw [if_neg (by decide)]; exact Nat.testBit_lt_two_pow (bitsN_lt f i)
      · rw [if_pos rfl, Nat.testBit_two_pow_add_eq, Nat.testBit_lt_two_pow (bitsN_lt f i)]; rfl
    · rw [← ih (by omega)]
      split
      · exact Nat.testBit_two_pow_add_gt (by omega) _
      · rfl
/-- Two colors are a side that cuts all edges. -/
theorem colors_cut {N : Nat} {l : List S49} (hU : UpIn N l) (col : Int → Bool) (hc : ∀ a b, JB l a b → col a ≠ col b) : ∃ s, s < 2 ^ N ∧ allCut N l s = true := by
  have hh : ∀ v : Int, 0 ≤ v → v < N → hasB N (bitsN (fun i => col ((N : Int) - 1 - (i : Int))) N) v = col v := by
    intro v h0 h1
    rw [hasB, bitsN_test _ _ _ (by omega)]
    congr 1; omega
  refine ⟨bitsN (fun i => col ((N : Int) - 1 - (i : Int))) N, bitsN_lt _ _, ?_⟩
  rw [allCut, List.all_eq_true]
  intro e he
  have hu := hU e he
  rw [cutB, hh _ (by omega) (by omega), hh _ (by omega) (by omega), bne_iff_ne]
  exact hc _ _ ((JB_iff _ _ _).2 ⟨e, he, .inl ⟨rfl, rfl, by omega⟩⟩)

/-- What Cycle asks of the first i vertices. -/
def CycTo (l : List S49) (c : List Int) (i : Nat) : Prop := ∀ j, j < i → joinedB l (rd c (j : Int)) (rd c (((j + 1) % c.length : Nat) : Int)) = true ∧ (0 < j → rd c 0 < rd c (j : Int)) ∧ rd c (j : Int) ∉ c.take j
/-- A list is written as an odd cycle. -/
def CycIs (l : List S49) (c : List Int) : Prop := 3 ≤ c.length ∧ c.length % 2 = 1 ∧ rd c 1 < rd c ((c.length - 1 : Nat) : Int) ∧ CycTo l c c.length
theorem rd_getD (c : List Int) (i : Nat) : rd c (i : Int) = c.getD i 0 := by simp [rd, List.getD_eq_getElem?_getD]
theorem getLast_getD (c : List Int) : c.getLastD 0 = c.getD (c.length - 1) 0 := by
  rw [List.getLastD_eq_getLast?, List.getLast?_eq_getElem?, List.getD_eq_getElem?_getD]
/-- A way on distinct vertices, its first one the smallest. -/
def PathIs (l : List S49) (p : List Int) : Prop := p ≠ [] ∧ ∀ j, j < p.length → (j + 1 < p.length → joinedB l (rd p (j : Int)) (rd p ((j + 1 : Nat) : Int)) = true) ∧ (0 < j → rd p 0 < rd p (j : Int)) ∧ rd p (j : Int) ∉ p.take j
theorem rd_snoc (p : List Int) (v : Int) (j : Nat) (hj : j < p.length) : rd (p ++ [v]) (j : Int) = rd p (j : Int) := by
  rw [rd_getD, rd_getD, List.getD_eq_getElem?_getD, List.getD_eq_getElem?_getD, List.getElem?_append_left hj]
theorem rd_last (p : List Int) (v : Int) : rd (p ++ [v]) (p.length : Int) = v := by
  rw [rd_getD, List.getD_eq_getElem?_getD]; simp
theorem PathIs.one (l : List S49) (v : Int) : PathIs l [v] := ⟨by simp, fun j hj => by
  obtain rfl : j = 0 := by simp at hj; exact hj
  exact ⟨fun h => by simp at h, fun h => by omega, by simp⟩⟩
theorem PathIs.snoc {l : List S49} {p : List Int} (h : PathIs l p) {v : Int} (hJ : joinedB l (rd p ((p.length - 1 : Nat) : Int)) v = true) (h0 : rd p 0 < v) (hf : v ∉ p) : PathIs l (p ++ [v]) := by
  obtain ⟨hne, hp⟩ := h
  have hpos : 0 < p.length := List.length_pos_iff.2 hne
  refine ⟨by simp, fun j hj => ?_⟩
  have h00 : rd (p ++ [v]) 0 = rd p 0 := rd_snoc p v 0 hpos
  rw [h00]
  by_cases e : j = p.length
  · subst e
    refine ⟨fun h => by simp at h, fun _ => by rw [rd_last]; exact h0, ?_⟩
    rw [rd_last, List.take_left']
    · exact hf
    · rfl
  · have hj' : j < p.length := by simp at hj; omega
    obtain ⟨a, b, c⟩ := hp j hj'
    refine ⟨fun _ => ?_, fun hh => by rw [rd_snoc p v j hj']; exact b hh, ?_⟩
    · rw [rd_snoc p v j hj']
      by_cases e2 : j + 1 = p.length
      · rw [e2, rd_last]
        rw [show p.length - 1 = j by omega] at hJ
        exact hJ
      · rw [rd_snoc p v (j + 1) (by omega)]
        exact a (by omega)
    · rw [rd_snoc p v j hj', List.take_append_of_le_length (by omega)]
      exact c
/-- The leaf: the reference's question and the program's. -/
theorem leaf_iff {l : List S49} {p : List Int} (h : PathIs l p) (h3 : 3 ≤ p.length) (hodd : p.length % 2 = 1) : CycIs l p ↔ ¬ (rd p 1 > rd p ((p.length - 1 : Nat) : Int) ∨ joinedB l (rd p 0) (rd p ((p.length - 1 : Nat) : Int)) = false) := by
  obtain ⟨hne, hp⟩ := h
  have hmod : ∀ j, j < p.length → (j + 1) % p.length = if j + 1 = p.length then 0 else j + 1 := fun j hj => by
    split
    · rename_i e; rw [e, Nat.mod_self]
    · exact Nat.mod_eq_of_lt (by omega)
  have hne1 : rd p 1 ≠ rd p ((p.length - 1 : Nat) : Int) := by
    intro e
    have := (hp (p.length - 1) (by omega)).2.2
    rw [← e] at this
    apply this
    rw [List.mem_take_iff_getElem]
    refine ⟨1, by omega, ?_⟩
    rw [show rd p 1 = p.getD 1 0 from rd_getD p 1, List.getD_eq_getElem?_getD, List.getElem?_eq_getElem (by omega)]
    rfl
  constructor
  · rintro ⟨_, _, h1, h4⟩ hb
    rcases hb with hb | hb
    · omega
    · have := (h4 (p.length - 1) (by omega)).1
      rw [hmod _ (by omega), if_pos (by omega)] at this
      have := JB_symm l _ _ this
      rw [show ((0 : Nat) : Int) = 0 from rfl] at this
      unfold JB at this
      rw [hb] at this; cases this
  · intro hb
    refine ⟨h3, hodd, ?_, fun j hj => ?_⟩
    · rcases Int.lt_or_le (rd p 1) (rd p ((p.length - 1 : Nat) : Int)) with h | h
      · exact h
      · exact absurd (.inl (by omega)) hb
    · obtain ⟨a, b, c⟩ := hp j hj
      refine ⟨?_, b, c⟩
      rw [hmod j hj]
      split
      · have e : j = p.length - 1 := by omega
        subst e
        have : JB l (rd p 0) (rd p ((p.length - 1 : Nat) : Int)) := by
          unfold JB
          cases hh : joinedB l (rd p 0) (rd p ((p.length - 1 : Nat) : Int))
          · exact absurd (.inr hh) hb
          · rfl
        exact JB_symm l _ _ this
      · exact a (by omega)

/-- The end of an edge of a cycle. -/
def endAt (c : List Int) (i : Nat) : Int × Int :=
  let v := c.getD i 0; let w := c.getD ((i + 1) % c.length) 0; (if v ≤ w then v else w, if v ≤ w then w else v)
theorem endsB_eq (c : List Int) : endsB c = (List.range c.length).map (endAt c) := rfl
def disjB (c : List Int) (us : List (Int × Int)) : Bool := !(endsB c).any fun p => us.contains p
/-- Each has none of the pairs of those ahead of it. -/
def Laid : List (Int × Int) → List (List Int) → Prop
  | _, [] => True
  | us, c :: cs => disjB c us = true ∧ Laid (us ++ endsB c) cs
theorem Laid.snoc : ∀ {us : List (Int × Int)} {cs : List (List Int)} {c : List Int}, Laid us cs → disjB c (us ++ cs.flatMap endsB) = true → Laid us (cs ++ [c])
  | us, [], c, _, h => ⟨by simpa using h, trivial⟩
  | us, d :: cs, c, ⟨h1, h2⟩, h => ⟨h1, Laid.snoc h2 (by simpa [List.append_assoc] using h)⟩
theorem contains_false_mem {p : List Int} {v : Int} (h : (!p.contains v) = true) : v ∉ p := by
  intro hm
  rw [Bool.not_eq_true', Bool.eq_false_iff] at h
  exact h (by rw [List.contains_iff_mem]; exact hm)
theorem cyc_sound (n : Int) (l : List S49) (size : Nat) (hodd : size % 2 = 1) (h3 : 3 ≤ size) : ∀ (d : Nat) (p x : List Int), PathIs l p → p.length + d = size → x ∈ cycB n l size d p → CycIs l x := by
  intro d
  induction d with
  | zero =>
    intro p x hp hlen hx
    have e0 : p.headD 0 = rd p 0 := by obtain ⟨hne, _⟩ := hp; cases p <;> simp [rd]
    rw [cycB, e0, getLast_getD, ← rd_getD, ← rd_getD] at hx
    split at hx
    · simp at hx
    · rename_i hb
      simp only [List.mem_singleton] at hx
      subst hx
      rw [leaf_iff hp (by omega) (by omega)]
      intro hc
      apply hb
      simp only [Bool.or_eq_true, decide_eq_true_eq, Bool.not_eq_true']
      exact hc
  | succ d ih =>
    intro p x hp hlen hx
    have hne := hp.1
    rw [cycB_step n l size d p _ _ hne rfl rfl, List.mem_flatMap] at hx
    obtain ⟨v, hv, hx⟩ := hx
    rw [List.mem_map] at hv
    obtain ⟨i, _, rfl⟩ := hv
    split at hx
    · rename_i hc
      rw [Bool.and_eq_true] at hc
      refine ih _ x (hp.snoc hc.1 ?_ (contains_false_mem hc.2)) (by simp; omega) hx
      show rd p ((0 : Nat) : Int) < _
      omega
    · simp at hx
theorem cycles_sound {n : Int} {l : List S49} {size : Nat} (hodd : size % 2 = 1) (h3 : 3 ≤ size) {x : List Int} (hx : x ∈ cyclesB n l size) : CycIs l x := by
  unfold cyclesB at hx
  rw [List.mem_flatMap] at hx
  obtain ⟨v, _, hv⟩ := hx
  exact cyc_sound n l size hodd h3 (size - 1) _ x (PathIs.one l _) (by simp; omega) hv
def unAt (N t : Nat) (c : List Int) (i : Nat) : Bool := hasB N t (rd c (i : Int)) == hasB N t (rd c (((i + 1) % c.length : Nat) : Int))
theorem uncut_exists (N t : Nat) {l : List S49} {c : List Int} (h : CycIs l c) : (List.range c.length).any (unAt N t c) = true := by
  obtain ⟨h3, hodd, _, _⟩ := h
  obtain ⟨i, hi, he⟩ := cycle_uncut c.length hodd (fun i => hasB N t (rd c ((i % c.length : Nat) : Int))) (by simp)
  rw [List.any_eq_true]
  refine ⟨i, by simpa using hi, ?_⟩
  unfold unAt
  simp only [Nat.mod_eq_of_lt hi] at he
  rw [he]; simp
theorem ends_in2 {l : List S49} {c : List Int} (h : CycIs l c) : ∀ p ∈ endsB c, hasEdge l p.1 p.2 = true := by
  intro p hp
  rw [endsB_eq, List.mem_map] at hp
  obtain ⟨i, hi, rfl⟩ := hp
  have h1 := (h.2.2.2 i (by simpa using hi)).1
  rw [rd_getD, rd_getD] at h1
  exact h1
theorem even_some (N : Nat) (h0 : 1 ≤ N) (l : List S49) (hg : graphOk N l = true) : (∃ s, evenB N l = some s) ↔ ∃ s, s < 2 ^ N ∧ allCut N l s = true := by
  rw [even_all N h0 l (graphOk_edges hg)]
  constructor
  · rintro ⟨s, hs⟩
    rw [List.find?_range_eq_some] at hs
    exact ⟨s, by simpa using hs.2.1, hs.1⟩
  · rintro ⟨s, h1, h2⟩
    cases h : (List.range (2 ^ N)).find? fun s => allCut N l s with
    | some t => exact ⟨t, rfl⟩
    | none =>
      rw [List.find?_eq_none] at h
      exact absurd h2 (h s (by simpa using h1))
end Go.Proofs.Ytkefmlhkejoknaa.L
