/- Plain law: the graph of the falling pairs of an order, its triangles and its two sides. -/
import Derived.Test.YtkefmlhkejoknaaP50
namespace Go.Proofs.Ytkefmlhkejoknaa.L
set_option linter.unusedVariables false
set_option linter.unusedSimpArgs false
open Go.RowKit Go.Proofs.YtkefmlhkejoknaaW.PrintWords Go.Proofs.YtkefmlhkejoknaaW.PrintLast Go.Proofs.YtkefmlhkejoknaaW.PrintMore

/-- The rows of the columns i and j fall. -/
def fallB (o : List Int) (i j : Nat) : Bool := decide (i < j) && !decide (rd o (i : Int) < rd o (j : Int))
def edgeF (o : List Int) (i j : Nat) : S49 := ⟨(i : Int), (j : Int), rd o (i : Int) - rd o (j : Int)⟩
def rowTo (o : List Int) (i m : Nat) : List S49 := ((List.range m).filter (fallB o i)).map (edgeF o i)
def fallTo (o : List Int) (m : Nat) : List S49 := (List.range m).flatMap fun i => rowTo o i o.length
def fallL (o : List Int) : List S49 := fallTo o o.length
/-- The falling triples, in ascending order. -/
def tri1 (o : List Int) (i j m : Nat) : List (List Int) := ((List.range m).filter fun k => decide (j < k) && decide (rd o (k : Int) < rd o (j : Int))).map fun (k : Nat) => [(i : Int), (j : Int), (k : Int)]
def tri2 (o : List Int) (i m : Nat) : List (List Int) := (List.range m).flatMap fun j => if fallB o i j then tri1 o i j o.length else []
def tri3 (o : List Int) (m : Nat) : List (List Int) := (List.range m).flatMap fun i => tri2 o i o.length
def triL (o : List Int) : List (List Int) := tri3 o o.length
def firstL (o : List Int) : List Int := (triL o).headD []

theorem rowTo_succ (o : List Int) (i m : Nat) : rowTo o i (m + 1) = rowTo o i m ++ (if fallB o i m then [edgeF o i m] else []) := by
  unfold rowTo
  rw [List.range_succ, List.filter_append, List.map_append, List.filter_cons, List.filter_nil]
  split <;> rfl
theorem rowTo_low (o : List Int) (i m : Nat) (h : m ≤ i + 1) : rowTo o i m = [] := by
  unfold rowTo
  rw [List.map_eq_nil_iff, List.filter_eq_nil_iff]
  intro j hj
  have : j < m := by simpa using hj
  unfold fallB
  rw [decide_eq_false (show ¬ i < j by omega)]; simp
theorem fallTo_succ (o : List Int) (m : Nat) : fallTo o (m + 1) = fallTo o m ++ rowTo o m o.length := by
  unfold fallTo
  rw [List.range_succ, List.flatMap_append]; simp
theorem tri1_succ (o : List Int) (i j m : Nat) : tri1 o i j (m + 1) = tri1 o i j m ++ (if decide (j < m) && decide (rd o (m : Int) < rd o (j : Int)) then [[(i : Int), (j : Int), (m : Int)]] else []) := by
  unfold tri1
  rw [List.range_succ, List.filter_append, List.map_append, List.filter_cons, List.filter_nil]
  split <;> rfl
theorem tri1_low (o : List Int) (i j m : Nat) (h : m ≤ j + 1) : tri1 o i j m = [] := by
  unfold tri1
  rw [List.map_eq_nil_iff, List.filter_eq_nil_iff]
  intro k hk
  have : k < m := by simpa using hk
  rw [decide_eq_false (show ¬ j < k by omega)]; simp
theorem tri2_succ (o : List Int) (i m : Nat) : tri2 o i (m + 1) = tri2 o i m ++ (if fallB o i m then tri1 o i m o.length else []) := by
  unfold tri2
  rw [List.range_succ, List.flatMap_append]; simp
theorem tri2_low (o : List Int) (i m : Nat) (h : m ≤ i + 1) : tri2 o i m = [] := by
  unfold tri2
  rw [List.flatMap_eq_nil_iff]
  intro j hj
  have : j < m := by simpa using hj
  have : fallB o i j = false := by unfold fallB; rw [decide_eq_false (show ¬ i < j by omega)]; rfl
  rw [this]; rfl
theorem tri3_succ (o : List Int) (m : Nat) : tri3 o (m + 1) = tri3 o m ++ tri2 o m o.length := by
  unfold tri3
  rw [List.range_succ, List.flatMap_append]; simp
theorem mem_tri {o : List Int} {c : List Int} : c ∈ triL o ↔ ∃ i j k : Nat, i < j ∧ j < k ∧ k < o.length ∧ ¬ rd o (i : Int) < rd o (j : Int) ∧ rd o (k : Int) < rd o (j : Int) ∧ c = [(i : Int), (j : Int), (k : Int)] := by
  unfold triL tri3 tri2
  simp only [List.mem_flatMap, List.mem_range]
  constructor
  · rintro ⟨i, hi, j, hj, hc⟩
    split at hc
    · rename_i hf
      unfold tri1 at hc
      simp only [List.mem_map, List.mem_filter, List.mem_range, Bool.and_eq_true, decide_eq_true_eq] at hc
      obtain ⟨k, ⟨hk, hjk, hlt⟩, rfl⟩ := hc
      unfold fallB at hf
      simp only [Bool.and_eq_true, decide_eq_true_eq, Bool.not_eq_true', decide_eq_false_iff_not] at hf
      exact ⟨i, j, k, hf.1, hjk, hk, hf.2, hlt, rfl⟩
    · cases hc
  · rintro ⟨i, j, k, h1, h2, h3, h4, h5, rfl⟩
    refine ⟨i, by omega, j, by omega, ?_⟩
    have hf : fallB o i j = true := by unfold fallB; simp [h1, h4]
    rw [if_pos hf]
    unfold tri1
    simp only [List.mem_map, List.mem_filter, List.mem_range, Bool.and_eq_true, decide_eq_true_eq]
    exact ⟨k, ⟨h3, h2, h5⟩, rfl⟩
theorem firstL_nil (o : List Int) : firstL o = [] ↔ triL o = [] := by
  unfold firstL
  cases h : triL o with
  | nil => simp
  | cons c cs =>
    have hc : c ∈ triL o := by rw [h]; exact List.mem_cons_self
    obtain ⟨i, j, k, _, _, _, _, _, rfl⟩ := mem_tri.1 hc
    simp

/-- All pairs of columns. -/
def pairsL (n : Nat) : List (Nat × Nat) := (List.range n).flatMap fun i => ((List.range n).filter fun j => decide (i < j)).map fun j => (i, j)
theorem fallL_pairs (o : List Int) : fallL o = ((pairsL o.length).filter fun p => !decide (rd o (p.1 : Int) < rd o (p.2 : Int))).map fun p => edgeF o p.1 p.2 := by
  unfold fallL fallTo pairsL rowTo
  rw [List.filter_flatMap, List.map_flatMap]
  congr 1
  funext i
  rw [List.filter_map, List.map_map, List.filter_filter]
  have e : (fun a => ((fun p : Nat × Nat => !decide (rd o (p.1 : Int) < rd o (p.2 : Int))) ∘ fun j => (i, j)) a && decide (i < a)) = fallB o i := by
    funext j
    unfold fallB
    rw [Bool.and_comm]; rfl
  rw [e]
  rfl
theorem pairs_len (n : Nat) (h : n ≤ 9) : (pairsL n).length = n * (n - 1) / 2 := by
  have : ∀ n : Fin 10, (pairsL n.1).length = n.1 * (n.1 - 1) / 2 := by decide
  exact this ⟨n, by omega⟩
theorem mem_pairs {n : Nat} {p : Nat × Nat} : p ∈ pairsL n ↔ p.1 < p.2 ∧ p.2 < n := by
  unfold pairsL
  simp only [List.mem_flatMap, List.mem_map, List.mem_filter, List.mem_range, decide_eq_true_eq]
  constructor
  · rintro ⟨i, hi, j, ⟨hj, hij⟩, rfl⟩
    exact ⟨hij, hj⟩
  · rintro ⟨h1, h2⟩
    exact ⟨p.1, by omega, p.2, ⟨h2, h1⟩, rfl⟩
theorem mem_fall {o : List Int} {e : S49} : e ∈ fallL o ↔ ∃ i j : Nat, i < j ∧ j < o.length ∧ ¬ rd o (i : Int) < rd o (j : Int) ∧ e = edgeF o i j := by
  rw [fallL_pairs]
  simp only [List.mem_map, List.mem_filter, Bool.not_eq_true', decide_eq_false_iff_not]
  constructor
  · rintro ⟨p, ⟨hp, hn⟩, rfl⟩
    have := mem_pairs.1 hp
    exact ⟨p.1, p.2, this.1, this.2, hn, rfl⟩
  · rintro ⟨i, j, h1, h2, h3, rfl⟩
    exact ⟨(i, j), ⟨mem_pairs.2 ⟨h1, h2⟩, h3⟩, rfl⟩
theorem edgesOk_all (n : Int) (l : List S49) (h1 : ∀ e ∈ l, edgeOk n e = true) (h2 : l.Pairwise fun a b => ¬ (a.f0 = b.f0 ∧ a.f1 = b.f1)) : ∀ k, k ≤ l.length → edgesOk n l k = true
  | 0, _ => rfl
  | k + 1, hk => by
    rw [edgesOk, edgesOk_all n l h1 h2 k (by omega), Bool.true_and, List.getElem?_eq_getElem (by omega)]
    dsimp only
    rw [h1 _ (List.getElem_mem _), Bool.true_and, Bool.not_eq_true']
    cases hh : hasEdge (l.take k) (l[k]).f0 (l[k]).f1
    · rfl
    · exfalso
      obtain ⟨e, he, e1, e2⟩ := (hasEdge_iff _ _ _).1 hh
      obtain ⟨j, hj, rfl⟩ := List.getElem_of_mem he
      have hj' : j < k := by simp at hj; omega
      rw [List.getElem_take] at e1 e2
      exact List.pairwise_iff_getElem.1 h2 j k (by omega) (by omega) hj' ⟨e1, e2⟩
theorem pairs_pw (n : Nat) : (pairsL n).Pairwise fun a b => a ≠ b := by
  unfold pairsL
  rw [List.pairwise_flatMap]
  constructor
  · intro i _
    rw [List.pairwise_map]
    refine (List.pairwise_lt_range.filter _).imp ?_
    intro a b hab he
    injection he with _ he
    omega
  · refine List.pairwise_lt_range.imp ?_
    intro a b hab x hx y hy he
    rw [List.mem_map] at hx hy
    obtain ⟨_, _, rfl⟩ := hx
    obtain ⟨_, _, rfl⟩ := hy
    injection he with he _
    omega
/-- An order of at most nine columns: numbers from 0 on, all different. -/
def OrdN (o : List Int) : Prop := 0 < o.length ∧ o.length ≤ 9 ∧ (∀ i, i < o.length → 0 ≤ rd o (i : Int) ∧ rd o (i : Int) < o.length) ∧ ∀ i j, i < j → j < o.length → rd o (i : Int) ≠ rd o (j : Int)
theorem fall_graph {o : List Int} (h : OrdN o) : graphOk (o.length : Int) (fallL o) = true := by
  obtain ⟨h0, h9, hb, hd⟩ := h
  unfold graphOk inB
  rw [Bool.and_eq_true, Bool.and_eq_true, Bool.and_eq_true, decide_eq_true_eq, decide_eq_true_eq, decide_eq_true_eq]
  refine ⟨⟨by omega, by omega⟩, ?_, ?_⟩
  · rw [fallL_pairs, List.length_map]
    refine Nat.le_trans (List.length_filter_le _ _) ?_
    rw [pairs_len _ h9]
    have : o.length * (o.length - 1) ≤ 9 * 8 := Nat.mul_le_mul h9 (by omega)
    omega
  · refine edgesOk_all _ _ ?_ ?_ _ (Nat.le_refl _)
    · intro e he
      obtain ⟨i, j, h1, h2, h3, rfl⟩ := mem_fall.1 he
      have hi := hb i (by omega)
      have hj := hb j h2
      unfold edgeOk inB edgeF
      simp only [Bool.and_eq_true, decide_eq_true_eq]
      omega
    · rw [fallL_pairs, List.pairwise_map]
      refine ((pairs_pw _).filter _).imp ?_
      rintro ⟨a1, a2⟩ ⟨b1, b2⟩ hab ⟨e1, e2⟩
      unfold edgeF at e1 e2
      dsimp only at e1 e2
      exact hab (by rw [show a1 = b1 by omega, show a2 = b2 by omega])
theorem joined_fall {o : List Int} {i j : Nat} (hij : i < j) (hj : j < o.length) : joinedB (fallL o) (i : Int) (j : Int) = !decide (rd o (i : Int) < rd o (j : Int)) := by
  unfold joinedB
  rw [if_pos (by omega), if_pos (by omega)]
  cases h : decide (rd o (i : Int) < rd o (j : Int))
  · refine (hasEdge_iff _ _ _).2 ⟨edgeF o i j, mem_fall.2 ⟨i, j, hij, hj, of_decide_eq_false h, rfl⟩, rfl, rfl⟩
  · cases hh : hasEdge (fallL o) (i : Int) (j : Int)
    · rfl
    · exfalso
      obtain ⟨e, he, e1, e2⟩ := (hasEdge_iff _ _ _).1 hh
      obtain ⟨a, b, h1, h2, h3, rfl⟩ := mem_fall.1 he
      unfold edgeF at e1 e2
      dsimp only at e1 e2
      obtain rfl : a = i := by omega
      obtain rfl : b = j := by omega
      exact h3 (of_decide_eq_true h)
theorem range_from (n v : Nat) : ((List.range (n - (v + 1))).map fun i => v + 1 + i) = (List.range n).filter fun j => decide (v < j) := by
  induction n with
  | zero => simp
  | succ n ih =>
    rw [List.range_succ, List.filter_append, ← ih, List.filter_cons, List.filter_nil]
    by_cases h : v < n
    · rw [decide_eq_true h, show n + 1 - (v + 1) = (n - (v + 1)) + 1 by omega, List.range_succ, List.map_append]
      simp; omega
    · rw [decide_eq_false h, show n + 1 - (v + 1) = 0 by omega, show n - (v + 1) = 0 by omega]; simp
theorem flatMap_filter_if {α β : Type} (p : α → Bool) (f : α → List β) : ∀ l : List α, (l.filter p).flatMap f = l.flatMap fun x => if p x then f x else []
  | [] => rfl
  | x :: l => by
    rw [List.filter_cons, List.flatMap_cons, ← flatMap_filter_if p f l]
    cases p x <;> simp
theorem flatMap_same {α β : Type} {f g : α → List β} : ∀ {l : List α}, (∀ x ∈ l, f x = g x) → l.flatMap f = l.flatMap g
  | [], _ => rfl
  | x :: l, h => by
    rw [List.flatMap_cons, List.flatMap_cons, h x List.mem_cons_self, flatMap_same fun y hy => h y (List.mem_cons_of_mem _ hy)]
theorem from_flat {β : Type} (n v : Nat) (f : Int → List β) : (((List.range ((n : Int) - ((v : Int) + 1)).toNat).map fun (i : Nat) => (v : Int) + 1 + (i : Int)).flatMap f) = (List.range n).flatMap fun j => if decide (v < j) then f (j : Int) else [] := by
  have e : ((n : Int) - ((v : Int) + 1)).toNat = n - (v + 1) := by omega
  rw [e, ← flatMap_filter_if, ← range_from, List.flatMap_map, List.flatMap_map]
  refine flatMap_same fun i _ => ?_
  rw [show (((v + 1 + i : Nat)) : Int) = (v : Int) + 1 + (i : Int) by omega]
theorem cycles_tri {o : List Int} (h : OrdN o) : cyclesB (o.length : Int) (fallL o) 3 = triL o := by
  obtain ⟨h0, h9, hb, hd⟩ := h
  unfold cyclesB triL tri3
  rw [Int.toNat_natCast]
  refine flatMap_same fun v hv => ?_
  have hv' : v < o.length := by simpa using hv
  show cycB _ _ 3 2 [(v : Int)] = _
  rw [cycB]
  show (((List.range ((o.length : Int) - ((v : Int) + 1)).toNat).map fun (i : Nat) => (v : Int) + 1 + (i : Int)).flatMap _) = _
  rw [from_flat]
  unfold tri2
  refine flatMap_same fun u hu => ?_
  have hu' : u < o.length := by simpa using hu
  by_cases hvu : v < u
  · rw [decide_eq_true hvu, if_pos rfl]
    show (if joinedB (fallL o) (v : Int) (u : Int) && !([(v : Int)].contains (u : Int)) then _ else _) = _
    rw [joined_fall hvu hu', show ([(v : Int)].contains (u : Int)) = false by simp; omega]
    unfold fallB
    rw [decide_eq_true hvu]
    cases hf : decide (rd o (v : Int) < rd o (u : Int))
    · have hf' := of_decide_eq_false hf
      simp only [Bool.not_false, Bool.and_true, Bool.true_and, if_true]
      show cycB _ _ 3 1 [(v : Int), (u : Int)] = _
      rw [cycB]
      show (((List.range ((o.length : Int) - ((v : Int) + 1)).toNat).map fun (i : Nat) => (v : Int) + 1 + (i : Int)).flatMap _) = _
      rw [from_flat]
      unfold tri1
      rw [show (((List.range o.length).filter fun k => decide (u < k) && decide (rd o (k : Int) < rd o (u : Int))).map fun (k : Nat) => [(v : Int), (u : Int), (k : Int)]) = ((List.range o.length).filter fun k => decide (u < k) && decide (rd o (k : Int) < rd o (u : Int))).flatMap fun (k : Nat) => [[(v : Int), (u : Int), (k : Int)]] by simp [List.flatMap_singleton', List.map_eq_flatMap]]
      rw [flatMap_filter_if]
      refine flatMap_same fun w hw => ?_
      have hw' : w < o.length := by simpa using hw
      show (if decide (v < w) then (if joinedB (fallL o) (u : Int) (w : Int) && !([(v : Int), (u : Int)].contains (w : Int)) then (if decide ((u : Int) > (w : Int)) || !joinedB (fallL o) (v : Int) (w : Int) then [] else [[(v : Int), (u : Int), (w : Int)]]) else []) else []) = _
      by_cases huw : u < w
      · have hvw : v < w := by omega
        have hne := hd u w huw hw'
        rw [decide_eq_true hvw, decide_eq_true huw, joined_fall huw hw', joined_fall hvw hw', show ([(v : Int), (u : Int)].contains (w : Int)) = false by simp; omega, show decide ((u : Int) > (w : Int)) = false by simp; omega]
        by_cases hlt : rd o (w : Int) < rd o (u : Int)
        · rw [decide_eq_true hlt, decide_eq_false (show ¬ rd o (u : Int) < rd o (w : Int) by omega), decide_eq_false (show ¬ rd o (v : Int) < rd o (w : Int) by omega)]
          rfl
        · rw [decide_eq_false hlt, decide_eq_true (show rd o (u : Int) < rd o (w : Int) by omega)]
          rfl
      · rw [decide_eq_false huw]
        by_cases he : w = u
        · subst he
          simp
        · rw [show decide ((u : Int) > (w : Int)) = true by simp; omega]
          simp
    · simp
  · have : fallB o v u = false := by unfold fallB; rw [decide_eq_false hvu]; rfl
    rw [this, decide_eq_false hvu]
    rfl
theorem fall_in {o : List Int} (h : OrdN o) : UpIn (o.length : Int) (fallL o) := by
  intro e he
  obtain ⟨i, j, h1, h2, h3, rfl⟩ := mem_fall.1 he
  unfold edgeF
  dsimp only
  omega
/-- No falling triple: two sides. -/
theorem fall_even {o : List Int} (h : OrdN o) (ht : triL o = []) : ∃ s, evenB (o.length : Int) (fallL o) = some s := by
  classical
  refine (even_some o.length h.1 _ (fall_graph h)).2 (colors_cut (fall_in h) (fun b => decide (∃ a : Nat, (a : Int) < b ∧ rd o b < rd o (a : Int))) ?_)
  have no : ∀ i j k : Nat, i < j → j < k → k < o.length → rd o (j : Int) < rd o (i : Int) → rd o (k : Int) < rd o (j : Int) → False := by
    intro i j k h1 h2 h3 h4 h5
    have : [(i : Int), (j : Int), (k : Int)] ∈ triL o := mem_tri.2 ⟨i, j, k, h1, h2, h3, by omega, h5, rfl⟩
    rw [ht] at this
    cases this
  have key : ∀ i j : Nat, i < j → j < o.length → rd o (j : Int) < rd o (i : Int) → decide (∃ a : Nat, (a : Int) < (i : Int) ∧ rd o (i : Int) < rd o (a : Int)) = false ∧ decide (∃ a : Nat, (a : Int) < (j : Int) ∧ rd o (j : Int) < rd o (a : Int)) = true := by
    intro i j h1 h2 h3
    refine ⟨decide_eq_false ?_, decide_eq_true ⟨i, by omega, h3⟩⟩
    rintro ⟨a, ha, hb⟩
    exact no a i j (by omega) h1 h2 hb h3
  intro a b hab
  obtain ⟨e, he, hx⟩ := (JB_iff _ _ _).1 hab
  obtain ⟨i, j, h1, h2, h3, rfl⟩ := mem_fall.1 he
  have hne := h.2.2.2 i j h1 h2
  have hk := key i j h1 h2 (by omega)
  unfold edgeF at hx
  dsimp only at hx
  rcases hx with ⟨rfl, rfl, _⟩ | ⟨rfl, rfl, _⟩
  · rw [hk.1, hk.2]; simp
  · rw [hk.1, hk.2]; simp
/-- A falling triple: no two sides, and the first one is the first of the shortest odd cycles. -/
theorem fall_odd {o : List Int} (h : OrdN o) {c : List Int} {cs : List (List Int)} (ht : triL o = c :: cs) : evenB (o.length : Int) (fallL o) = none ∧ ((oddSizes (o.length : Int)).flatMap fun k => cyclesB (o.length : Int) (fallL o) k).headD [] = c := by
  have hc : c ∈ triL o := by rw [ht]; exact List.mem_cons_self
  constructor
  · cases he : evenB (o.length : Int) (fallL o) with
    | none => rfl
    | some s =>
      exfalso
      obtain ⟨t, ht1, ht2⟩ := (even_some o.length h.1 _ (fall_graph h)).1 ⟨s, he⟩
      rw [← cycles_tri h] at hc
      have hcy := cycles_sound (by decide) (by decide) hc
      have hu := uncut_exists o.length t hcy
      rw [List.any_eq_true] at hu
      obtain ⟨i, hi, hb⟩ := hu
      have hm : endAt c i ∈ endsB c := by
        rw [endsB_eq]
        exact List.mem_map.2 ⟨i, hi, rfl⟩
      obtain ⟨e, he1, he2, he3⟩ := (hasEdge_iff _ _ _).1 (ends_in2 hcy _ hm)
      unfold allCut at ht2
      rw [List.all_eq_true] at ht2
      have hcut := ht2 e he1
      unfold unAt at hb
      rw [rd_getD, rd_getD] at hb
      have hb' := eq_of_beq hb
      unfold cutB at hcut
      rw [he2, he3] at hcut
      unfold endAt at hcut
      simp only at hcut
      split at hcut
      · rw [hb'] at hcut; simp at hcut
      · rw [hb'] at hcut; simp at hcut
  · obtain ⟨i, j, k, h1, h2, h3, _, _, rfl⟩ := mem_tri.1 hc
    have : oddSizes (o.length : Int) = 3 :: ((List.range ((o.length - 1) / 2 - 1)).map fun i => 2 * (i + 1) + 3) := by
      unfold oddSizes
      rw [Int.toNat_natCast, show (o.length - 1) / 2 = ((o.length - 1) / 2 - 1) + 1 by omega, List.range_succ_eq_map, List.map_cons, List.map_map]
      rfl
    rw [this, List.flatMap_cons, cycles_tri h, ht]
    rfl
/-- Five columns: a falling triple or a rising one. -/
theorem five_columns {o m : List Int} (h : OrdN o) (hl : m.length = o.length) (hm : ∀ i, i < o.length → rd m (i : Int) = (o.length : Int) - 1 - rd o (i : Int)) (h5 : 5 ≤ o.length) : triL o ≠ [] ∨ triL m ≠ [] := by
  rcases Classical.em (triL o = []) with ho | ho
  · rcases Classical.em (triL m = []) with hm2 | hm2
    · exfalso
      have no : ∀ i j k : Nat, i < j → j < k → k < o.length → ¬ rd o (i : Int) < rd o (j : Int) → rd o (k : Int) < rd o (j : Int) → False := by
        intro i j k h1 h2 h3 h4 h5
        have : [(i : Int), (j : Int), (k : Int)] ∈ triL o := mem_tri.2 ⟨i, j, k, h1, h2, h3, h4, h5, rfl⟩
        rw [ho] at this
        cases this
      have nm : ∀ i j k : Nat, i < j → j < k → k < o.length → ¬ rd o (j : Int) < rd o (i : Int) → rd o (j : Int) < rd o (k : Int) → False := by
        intro i j k h1 h2 h3 h4 h5
        have e1 := hm i (by omega)
        have e2 := hm j (by omega)
        have e3 := hm k (by omega)
        have : [(i : Int), (j : Int), (k : Int)] ∈ triL m := mem_tri.2 ⟨i, j, k, h1, h2, by omega, by omega, by omega, rfl⟩
        rw [hm2] at this
        cases this
      have d01 := h.2.2.2 0 1 (by omega) (by omega)
      have d12 := h.2.2.2 1 2 (by omega) (by omega)
      have d13 := h.2.2.2 1 3 (by omega) (by omega)
      have d23 := h.2.2.2 2 3 (by omega) (by omega)
      have d34 := h.2.2.2 3 4 (by omega) (by omega)
      have o012 := no 0 1 2 (by omega) (by omega) (by omega)
      have o013 := no 0 1 3 (by omega) (by omega) (by omega)
      have o123 := no 1 2 3 (by omega) (by omega) (by omega)
      have o234 := no 2 3 4 (by omega) (by omega) (by omega)
      have o134 := no 1 3 4 (by omega) (by omega) (by omega)
      have m012 := nm 0 1 2 (by omega) (by omega) (by omega)
      have m013 := nm 0 1 3 (by omega) (by omega) (by omega)
      have m123 := nm 1 2 3 (by omega) (by omega) (by omega)
      have m234 := nm 2 3 4 (by omega) (by omega) (by omega)
      have m134 := nm 1 3 4 (by omega) (by omega) (by omega)
      generalize rd o ((0 : Nat) : Int) = x0 at *
      generalize rd o ((1 : Nat) : Int) = x1 at *
      generalize rd o ((2 : Nat) : Int) = x2 at *
      generalize rd o ((3 : Nat) : Int) = x3 at *
      generalize rd o ((4 : Nat) : Int) = x4 at *
      clear no nm hm h ho hm2
      rcases Int.lt_or_gt_of_ne d01 with a | a
      · have b : x2 < x1 := by rcases Int.lt_or_gt_of_ne d12 with b | b; exact (m012 (by omega) b).elim; exact b
        have c : x3 < x1 := by rcases Int.lt_or_gt_of_ne d13 with c | c; exact (m013 (by omega) c).elim; exact c
        have d : x2 < x3 := by rcases Int.lt_or_gt_of_ne d23 with d | d; exact d; exact (o123 (by omega) d).elim
        rcases Int.lt_or_gt_of_ne d34 with e | e
        · exact m234 (by omega) e
        · exact o134 (by omega) e
      · have b : x1 < x2 := by rcases Int.lt_or_gt_of_ne d12 with b | b; exact b; exact (o012 (by omega) b).elim
        have c : x1 < x3 := by rcases Int.lt_or_gt_of_ne d13 with c | c; exact c; exact (o013 (by omega) c).elim
        have d : x3 < x2 := by rcases Int.lt_or_gt_of_ne d23 with d | d; exact (m123 (by omega) d).elim; exact d
        rcases Int.lt_or_gt_of_ne d34 with e | e
        · exact m134 (by omega) e
        · exact o234 (by omega) e
    · exact .inr hm2
  · exact .inl ho
/-- The pairs that fall and those that rise are all pairs. -/
theorem fall_lens {o m : List Int} (h : OrdN o) (hl : m.length = o.length) (hm : ∀ i, i < o.length → rd m (i : Int) = (o.length : Int) - 1 - rd o (i : Int)) : (fallL o).length + (fallL m).length = o.length * (o.length - 1) / 2 := by
  rw [fallL_pairs, fallL_pairs, List.length_map, List.length_map, hl, ← pairs_len _ h.2.1]
  have e : ((pairsL o.length).filter fun p => !decide (rd m (p.1 : Int) < rd m (p.2 : Int))) = (pairsL o.length).filter fun p => decide (rd o (p.1 : Int) < rd o (p.2 : Int)) := by
    refine List.filter_congr fun p hp => ?_
    have hp' := mem_pairs.1 hp
    have d := h.2.2.2 p.1 p.2 hp'.1 hp'.2
    rw [hm p.1 (by omega), hm p.2 hp'.2]
    by_cases c : rd o (p.1 : Int) < rd o (p.2 : Int)
    · rw [decide_eq_true c, decide_eq_false (by omega)]; rfl
    · rw [decide_eq_false c, decide_eq_true (by omega)]; rfl
  rw [e, ← List.countP_eq_length_filter, ← List.countP_eq_length_filter]
  have := List.length_eq_countP_add_countP (fun p : Nat × Nat => decide (rd o (p.1 : Int) < rd o (p.2 : Int))) (l := pairsL o.length)
  rw [this, Nat.add_comm]
  congr 1
  exact List.countP_congr fun p _ => by simp
theorem mir_ord {o m : List Int} (h : OrdN o) (hl : m.length = o.length) (hm : ∀ i, i < o.length → rd m (i : Int) = (o.length : Int) - 1 - rd o (i : Int)) : OrdN m := by
  obtain ⟨h0, h9, hb, hd⟩ := h
  refine ⟨by omega, by omega, fun i hi => ?_, fun i j hij hj => ?_⟩
  · have := hb i (by omega)
    rw [hm i (by omega)]
    omega
  · have := hd i j hij (by omega)
    rw [hm i (by omega), hm j (by omega)]
    omega
end Go.Proofs.Ytkefmlhkejoknaa.L
