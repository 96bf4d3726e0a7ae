/- Plain law: the law TopTriangles. -/
import Derived.Test.YtkefmlhkejoknaaPTriB
import Derived.Test.YtkefmlhkejoknaaL44
namespace Go.Proofs.Ytkefmlhkejoknaa.L
set_option linter.unusedVariables false
set_option linter.unusedSimpArgs false
open Go.RowKit Go.Proofs.YtkefmlhkejoknaaW.PrintWords Go.Proofs.YtkefmlhkejoknaaW.PrintLast Go.Proofs.YtkefmlhkejoknaaW.PrintMore

theorem topints_l0 (a b : List Int) (hl : a.length = b.length) (hs : a.length ≤ 1000000) : ∀ d i : Nat, i + d = a.length → a.take i = b.take i → Ev (fun k => remouldtop_ints.l0 k a b (i : Int)) (decide (a = b)) := by
  intro d
  induction d with
  | zero =>
    intro i hi h
    obtain rfl : i = a.length := by omega
    rw [List.take_of_length_le (Nat.le_refl _), List.take_of_length_le (by omega)] at h
    rw [decide_eq_true h]
    exact Ev.step (fun k => by rw [remouldtop_ints.l0, if_neg (by omega)]) (Ev.const true)
  | succ d ih =>
    intro i hi h
    have hia : i < a.length := by omega
    have hib : i < b.length := by omega
    have ea : rd a (i : Int) = a[i] := by simp [rd, List.getElem?_eq_getElem hia]
    have eb : rd b (i : Int) = b[i] := by simp [rd, List.getElem?_eq_getElem hib]
    by_cases c : rd a (i : Int) = rd b (i : Int)
    · refine Ev.step (fun k => by rw [remouldtop_ints.l0, if_pos (by omega), if_pos (by omega), if_pos (by omega), if_pos c, wrap64_id _ (by omega) (by omega)]) ?_
      refine ih (i + 1) (by omega) ?_
      rw [List.take_succ_eq_append_getElem hia, List.take_succ_eq_append_getElem hib, h, ← ea, ← eb, c]
    · have hne : a ≠ b := by
        intro e; subst e; exact c rfl
      rw [decide_eq_false hne]
      exact Ev.step (fun k => by rw [remouldtop_ints.l0, if_pos (by omega), if_pos (by omega), if_pos (by omega), if_neg c]) (Ev.const false)
theorem topints_f (a b : List Int) (hs : a.length ≤ 1000000) : Ev (fun k => remouldtop_ints.f k a b) (decide (a = b)) := by
  by_cases hl : a.length = b.length
  · exact Ev.congr (fun k => by rw [remouldtop_ints.f, if_pos (by omega)]; rfl) (topints_l0 a b hl hs a.length 0 (by omega) rfl)
  · rw [decide_eq_false (fun e => hl (by rw [e]))]
    exact Ev.congr (fun k => by rw [remouldtop_ints.f, if_neg (by omega)]) (Ev.const false)
theorem four_f : remouldtop_four.f = some true := by
  have h1 : gauge_Gaps.f 5 = some (⟨#[76, 83, 76, 76, 83]⟩, 0) := rfl
  have h2 : tread_Longest.f 2 [(⟨#[97, 97]⟩ : ByteArray), (⟨#[97, 98]⟩ : ByteArray), (⟨#[98, 98]⟩ : ByteArray)] = some (⟨#[98, 97]⟩, 0) := by
    unfold tread_Longest.f
    rw [if_pos ⟨rfl, rfl⟩]
  unfold remouldtop_four.f
  rw [h1, h2]
  simp only [Option.bind_some, ByteArray.toList_eq]
  rfl
theorem five_f : Ev (fun k => remouldtop_five.f k) true := by
  have h1 : stud_Roots.f 7 = some ([3, 5], 0) := rfl
  have h2 : belt_Best.f 2 [(⟨0, 1, 3⟩ : S49)] = some (⟨#[48, 49]⟩, 3, 0) := by rfl
  have hi := topints_f [3, 5] [3, 5] (by simp)
  refine Ev.congr (h := fun k => (remouldtop_ints.f k [3, 5] [3, 5]).bind fun t => if t = true then some true else some false) (fun k => ?_) ?_
  · unfold remouldtop_five.f
    rw [h1, h2, four_f]
    simp only [Option.bind_some, ByteArray.toList_eq]
    rfl
  · refine Ev.bind hi ?_
    exact Ev.const true
theorem firstL_len (o : List Int) : (firstL o).length ≤ 3 := by
  unfold firstL
  cases h : triL o with
  | nil => simp
  | cons c cs =>
    have hc : c ∈ triL o := by rw [h]; exact List.mem_cons_self
    obtain ⟨i, j, k, _, _, _, _, _, rfl⟩ := mem_tri.1 hc
    simp
/-- What Odd and Sides say of the falling pairs of an order. -/
theorem odd_of {o : List Int} (h : OrdN o) : ∃ e f : Int, belt_Odd.f (o.length : Int) (fallL o) = some (firstL o, e) ∧ (∃ s, belt_Sides.f (o.length : Int) (fallL o) = some (s, f)) ∧ (e == 0) = decide (((firstL o).length : Int) > 0) ∧ (f == 0) = !(e == 0) := by
  have hg := fall_graph h
  cases ht : triL o with
  | nil =>
    obtain ⟨s, hs⟩ := fall_even h ht
    have hf : firstL o = [] := by unfold firstL; rw [ht]; rfl
    refine ⟨6, 0, ?_, ⟨textB (o.length : Int) s, ?_⟩, ?_, rfl⟩
    · rw [belt_Odd.f, hg, hs, hf]; rfl
    · rw [belt_Sides.f, hg, hs]; rfl
    · rw [hf]; rfl
  | cons c cs =>
    obtain ⟨hv, hc⟩ := fall_odd h ht
    have hf : firstL o = c := by unfold firstL; rw [ht]; rfl
    have hm : c ∈ triL o := by rw [ht]; exact List.mem_cons_self
    obtain ⟨i, j, k, _, _, _, _, _, rfl⟩ := mem_tri.1 hm
    refine ⟨0, 6, ?_, ⟨⟨#[]⟩, ?_⟩, ?_, rfl⟩
    · rw [belt_Odd.f, hg, hv, hf]
      simp only [if_true]
      rw [hc]
    · rw [belt_Sides.f, hg, hv]; rfl
    · rw [hf]; simp
theorem orderB_of {o : List Int} (h : OrdN o) : orderB o = true := by
  obtain ⟨h0, h9, hb, hd⟩ := h
  unfold orderB
  rw [Bool.and_eq_true, Bool.and_eq_true, decide_eq_true_eq, decide_eq_true_eq, List.all_eq_true]
  refine ⟨⟨h0, by omega⟩, fun i hi => ?_⟩
  have hi' : i < o.length := by simpa using hi
  have := hb i hi'
  rw [Bool.and_eq_true, Bool.and_eq_true, decide_eq_true_eq, decide_eq_true_eq, Bool.not_eq_true']
  refine ⟨⟨this.1, by omega⟩, ?_⟩
  cases hc : (o.take i).contains (rd o (i : Int))
  · rfl
  · exfalso
    rw [List.contains_iff_mem, List.mem_take_iff_getElem] at hc
    obtain ⟨j, hj, e⟩ := hc
    have hj2 : j < i ∧ j < o.length := by omega
    refine hd j i hj2.1 hi' ?_
    rw [← e]
    simp [rd, List.getElem?_eq_getElem hj2.2]
theorem mirL_at {o : List Int} (i : Nat) (hi : i < o.length) : rd (mirL o) (i : Int) = (o.length : Int) - 1 - rd o (i : Int) := by
  simp [mirL, rd, List.getElem?_eq_getElem hi]
theorem sum_eq (n a b : Nat) (h9 : n ≤ 9) (h0 : 0 < n) (h : a + b = n * (n - 1) / 2) : wrap64 ((a : Int) + (b : Int)) = wrap64 (Int.tdiv (wrap64 ((n : Int) * wrap64 ((n : Int) - 1))) 2) := by
  have e : ∀ m : Nat, a + b = m → (a : Int) + (b : Int) = (m : Int) := fun m hm => by omega
  have h1 := e _ h
  clear e h
  rw [h1]
  clear h1
  obtain rfl | rfl | rfl | rfl | rfl | rfl | rfl | rfl | rfl : n = 1 ∨ n = 2 ∨ n = 3 ∨ n = 4 ∨ n = 5 ∨ n = 6 ∨ n = 7 ∨ n = 8 ∨ n = 9 := by omega
  all_goals decide +kernel
theorem sum_pos {a b : Nat} (ha : a ≤ 3) (hb : b ≤ 3) (h : a ≠ 0 ∨ b ≠ 0) : (wrap64 ((a : Int) + (b : Int)) == 0) = false := by
  have hw : wrap64 ((a : Int) + (b : Int)) = (a : Int) + (b : Int) := by unfold wrap64; omega
  rw [hw, beq_eq_false_iff_ne]
  omega
theorem pureTri (a0 : Int) (l1 : List Int) : ∃ k, remouldtop_TopTriangles.f k a0 l1 = some true := by
  apply Ev.get
  obtain ⟨t, ht, ht9⟩ := topmod_f a0 9 (by decide) (by decide)
  have w1 : wrap64 (1 + (t : Int)) = ((t + 1 : Nat) : Int) := by unfold wrap64; omega
  obtain ⟨o, hmix, hord⟩ := order_f l1 (t + 1) (by omega)
  have ho := hmix.ord (by omega) (by omega)
  have hlen := hmix.len
  have hml : (mirL o).length = o.length := by simp [mirL]
  have hma : ∀ i, i < o.length → rd (mirL o) (i : Int) = (o.length : Int) - 1 - rd o (i : Int) := fun i hi => mirL_at i hi
  have hm := mir_ord ho hml hma
  have hturn : stud_Turn.f o 2 = some (mirL o, 0) := by
    unfold stud_Turn.f
    rw [orderB_of ho]; rfl
  obtain ⟨e1, f1, hO1, ⟨s1, hS1⟩, hE1, hF1⟩ := odd_of ho
  obtain ⟨e2, f2, hO2, ⟨s2, hS2⟩, hE2, hF2⟩ := odd_of hm
  have hlens := fall_lens ho hml hma
  have h9 := ho.2.1
  have hsum := sum_eq o.length (fallL o).length (fallL (mirL o)).length h9 ho.1 hlens
  clear hlens h9
  rw [hml] at hO2 hS2
  have hfl1 := firstL_len o
  have hfl2 := firstL_len (mirL o)
  have eO : Ev (fun k => remouldtop_order.f k l1 ((t + 1 : Nat) : Int)) o := hord
  refine Ev.congr (h := fun k => (remouldtop_order.f k l1 ((t + 1 : Nat) : Int)).bind fun t743 => ((stud_Turn.f t743 2).bind fun bt746 => (if bt746.2 = 0 then (remouldtop_TopTriangles.j0 k ((t + 1 : Nat) : Int) t743 bt746.1 ((bt746.1.length : Int) != ((t + 1 : Nat) : Int))) else (remouldtop_TopTriangles.j0 k ((t + 1 : Nat) : Int) t743 bt746.1 true)))) (fun k => ?_) (Ev.bind eO ?_)
  · unfold remouldtop_TopTriangles.f
    rw [show (9 : Int) = ((9 : Nat) : Int) from rfl, ht]
    simp only [Option.bind_some]
    rw [w1]
  refine Ev.congr (h := fun k => remouldtop_TopTriangles.j0 k ((t + 1 : Nat) : Int) o (mirL o) false) (fun k => ?_) ?_
  · rw [hturn]
    simp only [Option.bind_some, if_true]
    rw [hml, hlen]
    simp
  rw [← hlen]
  refine Ev.step (fun k => by rw [remouldtop_TopTriangles.j0, if_neg (by simp)]) ?_
  refine Ev.bind (falling_f o ho) (Ev.bind (falling_f (mirL o) hm) ?_)
  have hj1 : Ev (fun k => remouldtop_TopTriangles.j1 k (o.length : Int) (fallL o) (firstL o) (fallL (mirL o)) (firstL (mirL o)) false) true := by
    refine Ev.step (fun k => by rw [remouldtop_TopTriangles.j1, if_neg (by simp)]) ?_
    refine Ev.congr (h := fun k => remouldtop_TopTriangles.j2 k (firstL o) (firstL (mirL o)) (firstL o) e1 (firstL (mirL o)) e2 false) (fun k => ?_) ?_
    · rw [hO1, hO2, hS1, hS2]
      simp only [Option.bind_some]
      rw [if_neg (by rw [hF1]; cases (e1 == 0) <;> simp), hF2]
      cases (e2 == 0) <;> rfl
    · refine Ev.step (fun k => by rw [remouldtop_TopTriangles.j2, if_neg (by simp)]) ?_
      have hi1 := topints_f (firstL o) (firstL o) (Nat.le_trans hfl1 (by decide))
      have hi2 := topints_f (firstL (mirL o)) (firstL (mirL o)) (Nat.le_trans hfl2 (by decide))
      rw [decide_eq_true rfl] at hi1 hi2
      refine Ev.bind hi1 ?_
      refine Ev.congr (fun k => if_pos rfl) ?_
      refine Ev.bind hi2 ?_
      refine Ev.congr (fun k => if_pos rfl) ?_
      refine Ev.congr (h := fun k => (remouldtop_five.f k).bind fun t776 => some t776) (fun k => ?_) (Ev.bind five_f (Ev.const true))
      rw [if_pos (by rw [hE1]; simp), if_pos (by rw [hE2]; simp)]
  refine Ev.congr (fun k => if_pos hsum) ?_
  by_cases h5 : (o.length : Int) ≥ 5
  · refine Ev.congr (fun k => if_pos h5) ?_
    have hz : (wrap64 (((firstL o).length : Int) + ((firstL (mirL o)).length : Int)) == 0) = false := by
      refine sum_pos hfl1 hfl2 ?_
      rcases five_columns ho hml hma (Int.ofNat_le.1 h5) with h | h
      · exact .inl fun e => h ((firstL_nil _).1 (List.length_eq_zero_iff.1 e))
      · exact .inr fun e => h ((firstL_nil _).1 (List.length_eq_zero_iff.1 e))
    exact Ev.congr (fun k => by rw [hz]) hj1
  · exact Ev.congr (fun k => if_neg h5) hj1
end Go.Proofs.Ytkefmlhkejoknaa.L
