/- Plain law: what order and falling come to. -/
import Derived.Test.YtkefmlhkejoknaaPTriA
import Derived.Test.YtkefmlhkejoknaaL41
import Derived.Test.YtkefmlhkejoknaaL42
namespace Go.Proofs.Ytkefmlhkejoknaa.L
set_option linter.unusedVariables false
set_option linter.unusedSimpArgs false
open Go.RowKit Go.Proofs.YtkefmlhkejoknaaW.PrintWords Go.Proofs.YtkefmlhkejoknaaW.PrintLast Go.Proofs.YtkefmlhkejoknaaW.PrintMore

theorem topmod_f (x : Int) (n : Nat) (h0 : 0 < n) (h1 : n ≤ 1000) : ∃ t : Nat, remouldtop_mod.f x (n : Int) = some (t : Int) ∧ t < n := by
  have e1 : IntKind.u64.wrap ((n : Int)) = (n : Int) := by rw [IntKind.wrap_u64]; omega
  have e2 : IntKind.u64.wrap x = x % 18446744073709551616 := by rw [IntKind.wrap_u64]
  have h2 : 0 ≤ x % 18446744073709551616 := Int.emod_nonneg _ (by omega)
  have e3 : Int.tmod (x % 18446744073709551616) (n : Int) = (x % 18446744073709551616) % (n : Int) := Int.tmod_eq_emod_of_nonneg h2
  have h3 := Int.emod_nonneg (x % 18446744073709551616) (show (n : Int) ≠ 0 by omega)
  have h4 := Int.emod_lt_of_pos (x % 18446744073709551616) (show 0 < (n : Int) by omega)
  refine ⟨((x % 18446744073709551616) % (n : Int)).toNat, ?_, by omega⟩
  unfold remouldtop_mod.f
  rw [e1, if_neg (by omega), e2, e3, wrap64_id _ (by omega) (by omega), Int.toNat_of_nonneg h3]

/-- The numbers below i, in some order. -/
def Mixed (o : List Int) (i : Nat) : Prop := o.Perm ((List.range i).map fun (j : Nat) => (j : Int))
theorem Mixed.len {o : List Int} {i : Nat} (h : Mixed o i) : o.length = i := by have := List.Perm.length_eq h; simpa using this
theorem Mixed.put {o : List Int} {i : Nat} (h : Mixed o i) (t : Nat) : Mixed (o.take t ++ [(i : Int)] ++ o.drop t) (i + 1) := by
  unfold Mixed
  rw [List.range_succ, List.map_append]
  have h1 : (o.take t ++ [(i : Int)] ++ o.drop t).Perm ((i : Int) :: o) := by
    rw [List.append_assoc, List.singleton_append]
    have := List.perm_middle (a := (i : Int)) (l₁ := o.take t) (l₂ := o.drop t)
    rwa [List.take_append_drop] at this
  refine h1.trans (((List.Perm.cons _ h)).trans ?_)
  have := List.perm_append_comm (l₁ := [(i : Int)]) (l₂ := (List.range i).map fun (j : Nat) => (j : Int))
  exact this
theorem Mixed.ord {o : List Int} {n : Nat} (h : Mixed o n) (h0 : 0 < n) (h9 : n ≤ 9) : OrdN o := by
  have hl := h.len
  have hd : o.Nodup := by
    refine (List.Perm.nodup_iff h).2 ?_
    rw [List.nodup_iff_pairwise_ne, List.pairwise_map]
    exact List.pairwise_lt_range.imp (fun h => by omega)
  refine ⟨by omega, by omega, fun i hi => ?_, fun i j hij hj => ?_⟩
  · have e : rd o (i : Int) = o[i] := by simp [rd, List.getElem?_eq_getElem hi]
    have hm : o[i] ∈ (List.range n).map fun (j : Nat) => (j : Int) := (List.Perm.mem_iff h).1 (List.getElem_mem hi)
    rw [List.mem_map] at hm
    obtain ⟨a, ha, hb⟩ := hm
    have : a < n := by simpa using ha
    rw [e]
    omega
  · have e1 : rd o (i : Int) = o[i] := by simp [rd, List.getElem?_eq_getElem (show i < o.length by omega)]
    have e2 : rd o (j : Int) = o[j] := by simp [rd, List.getElem?_eq_getElem hj]
    rw [e1, e2]
    intro e
    have := (List.getElem_inj hd).1 e
    omega
theorem order_l0 (l : List Int) (n : Nat) (hn : n ≤ 9) : ∀ (d i : Nat) (o : List Int), i + d = n → Mixed o i → ∃ r, Mixed r n ∧ Ev (fun k => remouldtop_order.l0 k l (n : Int) o (i : Int)) r := by
  intro d
  induction d with
  | zero =>
    intro i o hi h
    obtain rfl : i = n := by omega
    exact ⟨o, h, Ev.step (fun k => by rw [remouldtop_order.l0, if_neg (by omega)]) (Ev.const o)⟩
  | succ d ih =>
    intro i o hi h
    have hl := h.len
    have w1 : wrap64 ((i : Int) + 1) = ((i + 1 : Nat) : Int) := by unfold wrap64; omega
    by_cases hil : (i : Int) < (l.length : Int)
    · obtain ⟨t, ht, htn⟩ := topmod_f (rd l (i : Int)) (i + 1) (by omega) (by omega)
      obtain ⟨r, hr, hE⟩ := ih (i + 1) _ (by omega) (h.put t)
      refine ⟨r, hr, Ev.step (fun k => ?_) hE⟩
      rw [remouldtop_order.l0, if_pos (by omega), if_pos hil, if_pos (by omega), w1, ht]
      simp only [Option.bind_some]
      rw [if_pos (by omega), if_pos (by omega), Int.toNat_natCast]
      simp only [List.nil_append, List.length_nil, List.length_append, List.length_take, List.length_drop, List.length_cons]
      rw [if_pos (by omega), if_pos (by omega), if_pos (by omega)]
    · obtain ⟨r, hr, hE⟩ := ih (i + 1) _ (by omega) (h.put i)
      refine ⟨r, hr, Ev.step (fun k => ?_) hE⟩
      rw [remouldtop_order.l0, if_pos (by omega), if_neg hil, if_pos (by omega), if_pos (by omega), w1, Int.toNat_natCast]
      simp only [Option.bind_some]
      simp only [List.nil_append, List.length_nil, List.length_append, List.length_take, List.length_drop, List.length_cons]
      rw [if_pos (by omega), if_pos (by omega), if_pos (by omega)]
theorem order_f (l : List Int) (n : Nat) (hn : n ≤ 9) : ∃ r, Mixed r n ∧ Ev (fun k => remouldtop_order.f k l (n : Int)) r :=
  order_l0 l n hn n 0 [] (by omega) (List.Perm.refl _)

theorem rowTo_len (o : List Int) (i m : Nat) : (rowTo o i m).length ≤ m := by
  unfold rowTo
  rw [List.length_map]
  exact Nat.le_trans (List.length_filter_le _ _) (by simp)
theorem fallTo_len (o : List Int) : ∀ m, (fallTo o m).length ≤ m * o.length
  | 0 => by simp [fallTo]
  | m + 1 => by
    rw [fallTo_succ, List.length_append, Nat.succ_mul]
    exact Nat.add_le_add (fallTo_len o m) (rowTo_len o m o.length)
/-- The triples that have been seen so far. -/
def seen (o : List Int) (i j k : Nat) : List (List Int) := tri3 o i ++ tri2 o i j ++ tri1 o i j k
theorem tri1_ne (o : List Int) (i j k : Nat) : ∀ c ∈ tri1 o i j k, c ≠ [] := by
  intro c hc
  unfold tri1 at hc
  rw [List.mem_map] at hc
  obtain ⟨_, _, rfl⟩ := hc
  simp
theorem tri2_ne (o : List Int) (i j : Nat) : ∀ c ∈ tri2 o i j, c ≠ [] := by
  intro c hc
  unfold tri2 at hc
  rw [List.mem_flatMap] at hc
  obtain ⟨a, _, h⟩ := hc
  split at h
  · exact tri1_ne _ _ _ _ c h
  · cases h
theorem tri3_ne (o : List Int) (i : Nat) : ∀ c ∈ tri3 o i, c ≠ [] := by
  intro c hc
  unfold tri3 at hc
  rw [List.mem_flatMap] at hc
  obtain ⟨a, _, h⟩ := hc
  exact tri2_ne _ _ _ c h
theorem seen_ne (o : List Int) (i j k : Nat) : ∀ c ∈ seen o i j k, c ≠ [] := by
  intro c hc
  unfold seen at hc
  rw [List.mem_append, List.mem_append] at hc
  rcases hc with (h | h) | h
  · exact tri3_ne _ _ c h
  · exact tri2_ne _ _ _ c h
  · exact tri1_ne _ _ _ _ c h
theorem head_snoc {L : List (List Int)} (h : ∀ c ∈ L, c ≠ []) (c : List Int) : (L ++ [c]).headD [] = if ((L.headD []).length : Int) = 0 then c else L.headD [] := by
  cases L with
  | nil => simp
  | cons a L =>
    have ha := h a List.mem_cons_self
    have : ¬ ((a.length : Int) = 0) := by
      have := List.length_pos_iff.2 ha
      omega
    show a = if ((a.length : Int)) = 0 then c else a
    rw [if_neg this]
theorem falling_l2 (o : List Int) (h9 : o.length ≤ 9) (i j : Nat) (hij : i < j) (hj : j < o.length) (es : List S49) (r : List S49 × List Int)
    (hr : Ev (fun k => remouldtop_falling.l1 k o es ((seen o i j o.length).headD []) (i : Int) ((j + 1 : Nat) : Int)) r) :
    ∀ d m : Nat, m + d = o.length → j < m → Ev (fun k => remouldtop_falling.l2 k o es ((seen o i j m).headD []) (i : Int) (j : Int) (m : Int)) r := by
  have wj : wrap64 ((j : Int) + 1) = ((j + 1 : Nat) : Int) := by unfold wrap64; omega
  intro d
  induction d with
  | zero =>
    intro m hm hjm
    obtain rfl : m = o.length := by omega
    exact Ev.step (fun k => by rw [remouldtop_falling.l2, if_neg (by omega), wj]) hr
  | succ d ih =>
    intro m hm hjm
    have wm : wrap64 ((m : Int) + 1) = ((m + 1 : Nat) : Int) := by unfold wrap64; omega
    have ih' := ih (m + 1) (by omega) (by omega)
    have es1 : seen o i j (m + 1) = seen o i j m ++ (if decide (j < m) && decide (rd o (m : Int) < rd o (j : Int)) then [[(i : Int), (j : Int), (m : Int)]] else []) := by
      unfold seen
      rw [tri1_succ, ← List.append_assoc]
    rw [decide_eq_true hjm, Bool.true_and] at es1
    by_cases c : rd o (m : Int) < rd o (j : Int)
    · rw [decide_eq_true c, if_pos rfl] at es1
      rw [es1, head_snoc (seen_ne o i j m)] at ih'
      by_cases z : (((seen o i j m).headD []).length : Int) = 0
      · rw [if_pos z] at ih'
        exact Ev.step (fun k => by rw [remouldtop_falling.l2, if_pos (by omega), if_pos (by omega), if_pos (by omega), if_pos (by omega), if_pos c, if_pos z, wm]) ih'
      · rw [if_neg z] at ih'
        exact Ev.step (fun k => by rw [remouldtop_falling.l2, if_pos (by omega), if_pos (by omega), if_pos (by omega), if_pos (by omega), if_pos c, if_neg z, wm]) ih'
    · rw [decide_eq_false c, if_neg (by simp), List.append_nil] at es1
      rw [es1] at ih'
      exact Ev.step (fun k => by rw [remouldtop_falling.l2, if_pos (by omega), if_pos (by omega), if_pos (by omega), if_pos (by omega), if_neg c, wm]) ih'
theorem falling_l1 (o : List Int) (h : OrdN o) (i : Nat) (hi : i < o.length) (r : List S49 × List Int)
    (hr : Ev (fun k => remouldtop_falling.l0 k o (fallTo o (i + 1)) ((tri3 o (i + 1)).headD []) ((i + 1 : Nat) : Int)) r) :
    ∀ d m : Nat, m + d = o.length → i < m → Ev (fun k => remouldtop_falling.l1 k o (fallTo o i ++ rowTo o i m) ((tri3 o i ++ tri2 o i m).headD []) (i : Int) (m : Int)) r := by
  obtain ⟨h0, h9, hb, hd⟩ := h
  have wi : wrap64 ((i : Int) + 1) = ((i + 1 : Nat) : Int) := by unfold wrap64; omega
  intro d
  induction d with
  | zero =>
    intro m hm him
    obtain rfl : m = o.length := by omega
    rw [← fallTo_succ, ← tri3_succ]
    exact Ev.step (fun k => by rw [remouldtop_falling.l1, if_neg (by omega), wi]) hr
  | succ d ih =>
    intro m hm him
    have hml : m < o.length := by omega
    have wm : wrap64 ((m : Int) + 1) = ((m + 1 : Nat) : Int) := by unfold wrap64; omega
    have ih' := ih (m + 1) (by omega) (by omega)
    rw [rowTo_succ, tri2_succ] at ih'
    have hf : fallB o i m = !decide (rd o (i : Int) < rd o (m : Int)) := by unfold fallB; rw [decide_eq_true him, Bool.true_and]
    rw [hf] at ih'
    by_cases c : rd o (i : Int) < rd o (m : Int)
    · rw [decide_eq_true c, Bool.not_true, if_neg (by simp), if_neg (by simp), List.append_nil, List.append_nil] at ih'
      exact Ev.step (fun k => by rw [remouldtop_falling.l1, if_pos (by omega), if_pos (by omega), if_pos (by omega), if_pos (by omega), if_pos c, wm]) ih'
    · rw [decide_eq_false c, Bool.not_false, if_pos rfl, if_pos rfl, ← List.append_assoc, ← List.append_assoc] at ih'
      have hl2 := falling_l2 o h9 i m him hml (fallTo o i ++ rowTo o i m ++ [edgeF o i m]) r ih' d (m + 1) (by omega) (by omega)
      unfold seen at hl2
      rw [tri1_low _ _ _ _ (Nat.le_refl _), List.append_nil] at hl2
      have b1 := hb i hi
      have b2 := hb m hml
      have we : wrap64 (rd o (i : Int) - rd o (m : Int)) = rd o (i : Int) - rd o (m : Int) := by unfold wrap64; omega
      have hlen : (fallTo o i ++ rowTo o i m).length < 5864062014805 := by
        rw [List.length_append]
        have e1 := fallTo_len o i
        have e2 := rowTo_len o i m
        have e3 : i * o.length ≤ 9 * 9 := Nat.mul_le_mul (by omega) h9
        omega
      exact Ev.step (fun k => by rw [remouldtop_falling.l1, if_pos (by omega), if_pos (by omega), if_pos (by omega), if_pos (by omega), if_neg c, if_pos hlen, wm, we]; rfl) hl2
theorem falling_l0 (o : List Int) (h : OrdN o) : ∀ d i : Nat, i + d = o.length → Ev (fun k => remouldtop_falling.l0 k o (fallTo o i) ((tri3 o i).headD []) (i : Int)) (fallL o, firstL o) := by
  intro d
  induction d with
  | zero =>
    intro i hi
    obtain rfl : i = o.length := by omega
    exact Ev.step (fun k => by rw [remouldtop_falling.l0, if_neg (by omega)]; rfl) (Ev.const _)
  | succ d ih =>
    intro i hi
    have h9 := h.2.1
    have wi : wrap64 ((i : Int) + 1) = ((i + 1 : Nat) : Int) := by unfold wrap64; omega
    have h1 := falling_l1 o h i (by omega) _ (ih (i + 1) (by omega)) d (i + 1) (by omega) (by omega)
    rw [rowTo_low _ _ _ (Nat.le_refl _), tri2_low _ _ _ (Nat.le_refl _), List.append_nil, List.append_nil] at h1
    exact Ev.step (fun k => by rw [remouldtop_falling.l0, if_pos (by omega), wi]) h1
theorem falling_f (o : List Int) (h : OrdN o) : Ev (fun k => remouldtop_falling.f k o) (fallL o, firstL o) := falling_l0 o h o.length 0 (by omega)
end Go.Proofs.Ytkefmlhkejoknaa.L
