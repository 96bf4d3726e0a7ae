/- Plain law: the law BeltGreatest. -/
import Derived.Test.YtkefmlhkejoknaaP17
import Derived.Test.YtkefmlhkejoknaaP32
import Derived.Test.YtkefmlhkejoknaaL31
namespace Go.Proofs.Ytkefmlhkejoknaa.L
set_option linter.unusedVariables false
set_option linter.unusedSimpArgs false
open Go.RowKit Go.Proofs.YtkefmlhkejoknaaW.PrintWords Go.Proofs.YtkefmlhkejoknaaW.PrintLast Go.Proofs.YtkefmlhkejoknaaW.PrintMore

theorem lt_of_bits (m : Nat) : ∀ (x y : Nat), x.testBit m = false → y.testBit m = true → (∀ j, m < j → x.testBit j = y.testBit j) → x < y := by
  induction m with
  | zero =>
    intro x y h1 h2 h
    have e : x / 2 = y / 2 := by
      apply Nat.eq_of_testBit_eq
      intro i
      rw [← Nat.testBit_succ, ← Nat.testBit_succ]
      exact h (i + 1) (by omega)
    rw [Nat.testBit_zero] at h1 h2
    simp at h1 h2
    omega
  | succ m ih =>
    intro x y h1 h2 h
    rw [Nat.testBit_succ] at h1 h2
    have := ih (x / 2) (y / 2) h1 h2 (fun j hj => by
      have := h (j + 1) (by omega)
      rwa [Nat.testBit_succ, Nat.testBit_succ] at this)
    omega
theorem less_first : ∀ (a b : List UInt8), a.length = b.length → Op.bytesLess a b = true → ∃ i, i < a.length ∧ (∀ j, j < i → a[j]? = b[j]?) ∧ ∃ x y, a[i]? = some x ∧ b[i]? = some y ∧ x < y := by
  intro a
  induction a with
  | nil => intro b hl h; cases b with
    | nil => simp [Op.bytesLess] at h
    | cons y b => simp at hl
  | cons x a ih =>
    intro b hl h
    cases b with
    | nil => simp at hl
    | cons y b =>
      simp only [Op.bytesLess, Bool.or_eq_true, Bool.and_eq_true, decide_eq_true_eq, beq_iff_eq] at h
      rcases h with h | ⟨h1, h2⟩
      · exact ⟨0, by simp, fun j hj => by omega, x, y, rfl, rfl, h⟩
      · obtain ⟨i, g1, g2, x', y', g3, g4, g5⟩ := ih b (by simpa using hl) h2
        refine ⟨i + 1, by simpa using g1, fun j hj => ?_, x', y', by simpa using g3, by simpa using g4, g5⟩
        cases j with
        | zero => simp [h1]
        | succ j => simpa using g2 j (by omega)
theorem char_at (N s v : Nat) (hv : v < N) : (textB (N : Int) s).toList[v]? = some (if hasB N s (v : Int) then (49 : UInt8) else 48) := by
  rw [ByteArray.toList_eq]
  simp [textB, charsB, hv]
theorem text_len (N s : Nat) : (textB (N : Int) s).toList.length = N := by
  rw [ByteArray.toList_eq]
  simp [textB, charsB]
theorem text_less (N t s : Nat) (ht : t < 2 ^ N) (hs : s < 2 ^ N) (h : Op.bytesLess (textB (N : Int) t).toList (textB (N : Int) s).toList = true) : t < s := by
  obtain ⟨i, g1, g2, x, y, g3, g4, g5⟩ := less_first _ _ (by rw [text_len, text_len]) h
  rw [text_len] at g1
  rw [char_at N t i g1] at g3
  rw [char_at N s i g1] at g4
  have hbit : ∀ v : Nat, v < N → ((N : Int) - 1 - v).toNat = N - 1 - v := fun v hv => by omega
  have e1 : t.testBit (N - 1 - i) = false := by
    cases hq : t.testBit (N - 1 - i)
    · rfl
    · rw [hasB, hbit i g1, hq] at g3
      simp at g3
      subst g3
      cases hq2 : hasB N s (i : Int) <;> rw [hq2] at g4 <;> simp at g4 <;> subst g4 <;> exact absurd g5 (by decide)
  have e2 : s.testBit (N - 1 - i) = true := by
    cases hq : s.testBit (N - 1 - i)
    · rw [hasB, hbit i g1, hq] at g4
      simp at g4
      subst g4
      rw [hasB, hbit i g1, e1] at g3
      simp at g3
      subst g3
      exact absurd g5 (by decide)
    · rfl
  refine lt_of_bits (N - 1 - i) t s e1 e2 fun j hj => ?_
  rcases Nat.lt_or_ge j N with hjN | hjN
  · have := g2 (N - 1 - j) (by omega)
    rw [char_at N t _ (by omega), char_at N s _ (by omega), hasB, hasB, hbit _ (by omega)] at this
    have e : N - 1 - (N - 1 - j) = j := by omega
    rw [e] at this
    cases h1 : t.testBit j <;> cases h2 : s.testBit j <;> rw [h1, h2] at this <;> simp at this <;> rfl
  · rw [Nat.testBit_lt_two_pow (Nat.lt_of_lt_of_le ht (Nat.pow_le_pow_right (by omega) hjN)), Nat.testBit_lt_two_pow (Nat.lt_of_lt_of_le hs (Nat.pow_le_pow_right (by omega) hjN))]

theorem valsTo_mem (N : Nat) (l : List S49) (i : Nat) (hi : i ≤ 4096) : ∀ y, y ∈ valsTo N l i ↔ ∃ s, s < i ∧ properB N s = true ∧ valB N s l = y := by
  induction i with
  | zero => intro y; simp [valsTo, sidesUpTo, valsOf]
  | succ i ih =>
    intro y
    cases hw : properB (N : Int) i
    · rw [valsTo, sidesUpTo_miss _ i hw]
      show y ∈ valsTo N l i ↔ _
      rw [ih (by omega)]
      constructor
      · rintro ⟨s, h1, h2, h3⟩; exact ⟨s, by omega, h2, h3⟩
      · rintro ⟨s, h1, h2, h3⟩
        have : s ≠ i := by intro e; subst e; rw [hw] at h2; cases h2
        exact ⟨s, by omega, h2, h3⟩
    · rw [valsTo, sidesUpTo_hit _ i (by omega) hw, valsOf_snoc, insU_mem]
      show y = valB N i l ∨ y ∈ valsTo N l i ↔ _
      rw [ih (by omega)]
      constructor
      · rintro (h | ⟨s, h1, h2, h3⟩)
        · exact ⟨i, by omega, hw, h.symm⟩
        · exact ⟨s, by omega, h2, h3⟩
      · rintro ⟨s, h1, h2, h3⟩
        by_cases e : s = i
        · subst e; exact .inl h3.symm
        · exact .inr ⟨s, by omega, h2, h3⟩
theorem valsTo_rising (N : Nat) (l : List S49) (i : Nat) : (valsTo N l i).Pairwise (· < ·) := valsOf_rising _ _ _
theorem rd_at' (xs : List Int) (i : Nat) (h : i < xs.length) : rd xs (i : Int) = xs[i] := by simp [rd, h]

theorem greatest_l0 (N t s : Nat) (a2 : Int) (hN : N ≤ 12) (h1 : 1 ≤ N) (ht : t = sideN a2 N) (hs : s < 2 ^ N) (all : List Int) (w v : Int) (hlen : all.length ≤ 1000000) (hr : all.Pairwise (· < ·)) (hw : w ∈ all) (hv : v ∈ all) (hmax : ∀ y ∈ all, y ≤ v)
    (hlow : w = v → t < s → False) : ∀ d i : Nat, i + d = all.length → Ev (fun k => remouldlaw05_BeltGreatest.l0 k N a2 (textB N s) v w all ((all.take i).contains w) i) true := by
  have haw : Ev (fun k => (remouldlaw05_awake.f k).bind fun t => some t) true := Ev.bind awake_f (Ev.const true)
  have hsz := text_size N t
  have hpos : 0 < all.length := List.length_pos_of_mem hw
  intro d
  induction d with
  | zero =>
    intro i hi
    obtain rfl : i = all.length := by omega
    have hc : (all.take all.length).contains w = true := by rw [List.take_length, List.contains_iff_mem]; exact hw
    rw [hc]
    have hlast : rd all ((all.length - 1 : Nat) : Int) = v := by
      rw [rd_at' _ _ (by omega)]
      obtain ⟨j, hj, e⟩ := List.getElem_of_mem hv
      have h2 := hmax _ (List.getElem_mem (show all.length - 1 < all.length by omega))
      by_cases c : j = all.length - 1
      · subst c; exact e
      · have := List.pairwise_iff_getElem.1 hr j (all.length - 1) hj (by omega) (by omega)
        omega
    have hwl : wrap64 ((all.length : Int) - 1) = ((all.length - 1 : Nat) : Int) := by rw [wrap64_id _ (by omega) (by omega)]; omega
    have hwv : w ≤ v := hmax w hw
    have hsd := lawside_f a2 N hN
    rw [← ht] at hsd
    by_cases c : w < v
    · refine Ev.step (fun k => ?_) haw
      rw [remouldlaw05_BeltGreatest.l0, if_neg (by omega), if_pos rfl, hwl, if_pos (by omega), if_pos (by omega), if_pos hlast, if_pos c]
    · refine Ev.step (fun k => by rw [remouldlaw05_BeltGreatest.l0, if_neg (by omega), if_pos rfl, hwl, if_pos (by omega), if_pos (by omega), if_pos hlast, if_neg c]) (Ev.bind hsd ?_)
      refine Ev.congr (fun k => if_pos (by rw [hsz]; omega)) ?_
      by_cases c2 : bt (textB (N : Int) t) 0 = 48
      · refine Ev.congr (fun k => if_pos c2) (Ev.bind hsd ?_)
        refine Ev.congr (fun k => if_neg fun h => ?_) haw
        exact hlow (by omega) (text_less N t s (by rw [ht]; exact sideN_lt _ _) hs h)
      · exact Ev.congr (fun k => if_neg c2) haw
  | succ d ih =>
    intro i hi
    have hlt : i < all.length := by omega
    have ih' := ih (i + 1) (by omega)
    have hcon : (all.take (i + 1)).contains w = ((all.take i).contains w || (rd all (i : Int) == w)) := by
      rw [List.take_succ_eq_append_getElem hlt, rd_at' _ _ hlt, Bool.eq_iff_iff]
      simp only [List.contains_iff_mem, Bool.or_eq_true, List.mem_append, List.mem_singleton, beq_iff_eq]
      constructor
      · rintro (h | h)
        · exact .inl h
        · exact .inr h.symm
      · rintro (h | h)
        · exact .inl h
        · exact .inr h.symm
    rw [hcon] at ih'
    have hstep : ∀ k : Nat, remouldlaw05_BeltGreatest.l0 (k + 1) N a2 (textB N s) v w all ((all.take i).contains w) i = remouldlaw05_BeltGreatest.l0 k N a2 (textB N s) v w all ((all.take i).contains w || (rd all (i : Int) == w)) ((i + 1 : Nat) : Int) := by
      intro k
      rw [remouldlaw05_BeltGreatest.l0, if_pos (by omega)]
      have hw1 : wrap64 ((i : Int) + 1) = ((i + 1 : Nat) : Int) := by rw [wrap64_id _ (by omega) (by omega)]; rfl
      rw [hw1]
      have hin : ∀ b : Bool, (if b = true then remouldlaw05_BeltGreatest.l0 k N a2 (textB N s) v w all true ((i + 1 : Nat) : Int) else remouldlaw05_BeltGreatest.l0 k N a2 (textB N s) v w all (rd all (i : Int) == w) ((i + 1 : Nat) : Int)) = remouldlaw05_BeltGreatest.l0 k N a2 (textB N s) v w all (b || (rd all (i : Int) == w)) ((i + 1 : Nat) : Int) := by
        intro b; cases b <;> rfl
      by_cases c : (i : Int) > 0
      · have hw2 : wrap64 ((i : Int) - 1) = ((i - 1 : Nat) : Int) := by rw [wrap64_id _ (by omega) (by omega)]; omega
        have hlt2 : rd all ((i - 1 : Nat) : Int) < rd all (i : Int) := by
          rw [rd_at' _ _ hlt, rd_at' _ _ (by omega)]
          exact List.pairwise_iff_getElem.1 hr (i - 1) i (by omega) hlt (by omega)
        rw [if_pos c, hw2, if_pos (by omega), if_pos (by omega), if_pos (by omega), if_neg (by omega), hin]
      · rw [if_neg c, if_pos (show (0 : Int) ≤ (i : Int) by omega), hin]
    exact Ev.step hstep ih'
theorem pureGreatest : remouldlaw05_BeltGreatest.Pure := by
  intro a0 l1 a2 _ _ hsz _ _
  apply Ev.get
  obtain ⟨N, g, ht, h0, hN, hg, hlow, hlen⟩ := tame_f a0 l1 40 (-50) hsz (by omega) (by omega) (by omega)
  have b0 : Ev (fun _ : Nat => remouldlaw05_tame.f a0 l1 40 (-50)) ((N : Int), g) := ⟨0, fun _ _ => ht⟩
  have b1 : Ev (fun _ : Nat => belt_Best.f N g) _ := ⟨0, fun _ _ => best_b N g hg⟩
  have hne := edgesNe_of hg
  have hE := graphOk_edges hg
  obtain ⟨d1, d2, d3, d4, d5⟩ := best_is N h0 g hne
  have hst := sideN_lt a2 N
  have b2 : Ev (fun _ : Nat => belt_Value.f N g (textB N (sideN a2 N))) _ := ⟨0, fun _ _ => value_b N (sideN a2 N) h0 hN hst g hg⟩
  have b3 : Ev (fun _ : Nat => belt_Count.f N g) ((bestB N g (properB N) (2 ^ N)).2.2, 0) := ⟨0, fun _ _ => by rw [belt_Count.f, hg]; rfl⟩
  have b4 : Ev (fun _ : Nat => belt_Values.f N g) (valsTo N g (2 ^ N), 0) := ⟨0, fun _ _ => by rw [belt_Values.f, hg]; rfl⟩
  refine Ev.bind b0 (Ev.bind b1 (Ev.bind (lawside_f a2 N hN) (Ev.bind b2 (Ev.bind b3 (Ev.bind b4 ?_)))))
  have hp : 2 ^ N ≤ 2 ^ 12 := Nat.pow_le_pow_right (by omega) (by omega)
  have h3 : 2 ^ N = 2 ^ (N - 1) + 2 ^ (N - 1) := by
    obtain ⟨m, rfl⟩ : ∃ m, N = m + 1 := ⟨N - 1, by omega⟩
    rw [Nat.pow_succ]; simp; omega
  have hcnt : (bestB N g (properB N) (2 ^ N)).2.2 ≤ ((2 ^ (N - 1) : Nat) : Int) := by
    have := best_ref N g h0 (2 ^ (N - 1)) (by omega) (Nat.le_refl _)
    rw [h3, best_half N g h0 (2 ^ (N - 1)) (by omega)]
    exact this.2.1
  have hmem := valsTo_mem N g (2 ^ N) (by omega)
  have hall := valsTo_length N g (2 ^ N)
  have hris := valsTo_rising N g (2 ^ N)
  generalize hbb : bestB N g (properB N) (2 ^ N) = r at d1 d2 d3 d4 d5 hcnt
  have hs : r.1 < 2 ^ N := by omega
  have hsd := side_f (N : Int) (textB N r.1) (by rw [text_size]; omega)
  rw [(text_side N r.1 hs).1] at hsd
  refine Ev.congr (fun k => if_pos rfl) (Ev.congr (fun k => if_pos rfl) (Ev.congr (fun k => if_pos rfl) (Ev.congr (fun k => if_pos rfl) (Ev.bind hsd (Ev.congr (fun k => if_pos rfl) ?_)))))
  have hbt : bt (textB (N : Int) r.1) 0 = 48 := by
    have := bt_text N r.1 0 (by omega) (by omega)
    have hpr := proper_half N r.1 h0 d1
    rw [this]
    unfold properB at hpr
    rw [Bool.not_eq_true'] at hpr
    rw [if_neg (by rw [hpr]; decide)]
  have hvr := value_f N r.1 g (by omega) hE
  rw [d2] at hvr
  have hw1 : wrap64 ((N : Int) - 1) = ((N - 1 : Nat) : Int) := by rw [wrap64_id _ (by omega) (by omega)]; omega
  have hsh : shl .i64 1 ((N - 1 : Nat) : Int) = ((2 ^ (N - 1) : Nat) : Int) := by
    rw [shl, IntKind.wrap_i64]
    have e : min ((N - 1 : Nat) : Int).toNat IntKind.i64.bits = N - 1 := by
      show min _ 64 = _
      rw [Int.toNat_natCast]; omega
    rw [e]
    have e2 : ((2 : Int) ^ (N - 1)) = ((2 ^ (N - 1) : Nat) : Int) := by simp
    rw [e2]
    omega
  have hwv : valB N (sideN a2 N) g ≤ r.2.1 := d4 _ hst
  have hmw : valB N (sideN a2 N) g ∈ valsTo N g (2 ^ N) := by
    rw [hmem]
    rcases Nat.lt_or_ge (sideN a2 N) (2 ^ (N - 1)) with h | h
    · exact ⟨_, hst, proper_half N _ h0 h, rfl⟩
    · exact ⟨2 ^ N - (sideN a2 N + 1), by omega, proper_half N _ h0 (by omega), val_comp N _ hst g hne⟩
  have hmv : r.2.1 ∈ valsTo N g (2 ^ N) := by
    rw [hmem]; exact ⟨r.1, hs, proper_half N _ h0 d1, d2⟩
  have hmax : ∀ y ∈ valsTo N g (2 ^ N), y ≤ r.2.1 := by
    intro y hy
    rw [hmem] at hy
    obtain ⟨s, h1, _, rfl⟩ := hy
    exact d4 s h1
  refine Ev.congr (fun k => if_pos (by show 0 < ((textB (N : Int) r.1).size : Int); rw [text_size]; omega)) (Ev.congr (fun k => if_pos hbt) (Ev.bind hvr (Ev.congr (fun k => if_pos rfl) ?_)))
  refine Ev.congr (fun k => if_neg (by show ¬ valB N (sideN a2 N) g > r.2.1; omega)) (Ev.congr (fun k => if_neg (by show ¬ r.2.2 < 1; omega)) ?_)
  refine Ev.congr (fun k => if_pos (by show 0 ≤ wrap64 ((N : Int) - 1); rw [hw1]; omega)) (Ev.congr (fun k => if_neg (by show ¬ r.2.2 > shl .i64 1 (wrap64 ((N : Int) - 1)); rw [hw1, hsh]; omega)) ?_)
  have hpos : 0 < (valsTo N g (2 ^ N)).length := List.length_pos_of_mem hmw
  have hdec : decide (((valsTo N g (2 ^ N)).length : Int) < 1) = false := decide_eq_false (by omega)
  have hl := greatest_l0 N (sideN a2 N) r.1 a2 hN h0 rfl hs (valsTo N g (2 ^ N)) (valB N (sideN a2 N) g) r.2.1 (by omega) hris hmw hmv hmax (fun e hlt => by have := d5 _ hlt; omega) (valsTo N g (2 ^ N)).length 0 (by omega)
  refine Ev.step (fun k => ?_) hl
  show remouldlaw05_BeltGreatest.j0 (k + 1) N a2 (textB N r.1) r.2.1 (valB N (sideN a2 N) g) (valsTo N g (2 ^ N)) (decide (((valsTo N g (2 ^ N)).length : Int) < 1)) = _
  rw [hdec, remouldlaw05_BeltGreatest.j0, if_neg (by decide)]
  rfl

end Go.Proofs.Ytkefmlhkejoknaa.L
