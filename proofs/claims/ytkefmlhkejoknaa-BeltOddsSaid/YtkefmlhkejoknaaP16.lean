/- Plain law: the first one of the shortest odd cycles; the law BeltOdds. -/
import Derived.Test.YtkefmlhkejoknaaP15
import Derived.Test.YtkefmlhkejoknaaL10
namespace Go.Proofs.Ytkefmlhkejoknaa.L
set_option linter.unusedVariables false
set_option linter.unusedSimpArgs false
open Go.RowKit Go.Proofs.YtkefmlhkejoknaaW.PrintWords Go.Proofs.YtkefmlhkejoknaaW.PrintLast Go.Proofs.YtkefmlhkejoknaaW.PrintMore

theorem cyc_mem_len (n : Int) (l : List S49) (size : Nat) : ∀ (d : Nat) (p x : List Int), p ≠ [] → x ∈ cycB n l size d p → x.length = p.length + d := by
  intro d
  induction d with
  | zero =>
    intro p x _ hx
    rw [cycB] at hx
    split at hx
    · simp at hx
    · simp at hx; subst hx; rfl
  | succ d ih =>
    intro p x hne hx
    rw [cycB_step n l size d p _ _ hne rfl rfl, List.mem_flatMap] at hx
    obtain ⟨v, _, hv⟩ := hx
    split at hv
    · have := ih _ x (by simp) hv
      simp at this; omega
    · simp at hv
theorem cycles_mem_len {n : Int} {l : List S49} {size : Nat} {x : List Int} (h3 : 3 ≤ size) (hx : x ∈ cyclesB n l size) : x.length = size := by
  unfold cyclesB at hx
  rw [List.mem_flatMap] at hx
  obtain ⟨v, _, hv⟩ := hx
  have := cyc_mem_len n l size _ _ x (by simp) hv
  simp at this; omega
theorem cycTo_len (n : Int) (l : List S49) (size : Nat) (hn : n ≤ 12) (k : Nat) : (cycTo n l size k).length ≤ k * 11 ^ (size - 1) := by
  induction k with
  | zero => simp [cycTo]
  | succ k ih =>
    rw [cycTo_succ, List.length_append, Nat.succ_mul]
    have := cyc_len n l size hn (size - 1) [(k : Int)] (by simp) (by show (0 : Int) ≤ (k : Int); omega)
    omega
/-- All cycles of a length, or the first one. -/
theorem cycles_top (N : Nat) (hN : N ≤ 12) (l : List S49) (hl : l.length ≤ 41) (size : Nat) (hs3 : 3 ≤ size) (hs12 : size ≤ 12) (hodd : size % 2 = 1) (one : Bool) :
    Ev (fun k => remouldref05_cycles.f k N l [] size one) (pk one (cyclesB N l size)) := by
  have hpow : 11 ^ (size - 1) ≤ 11 ^ 10 := Nat.pow_le_pow_right (by omega) (by omega)
  have hloop : ∀ e j : Nat, j + e = N → Ev (fun k => remouldref05_cycles.l0 k N l [] size one (pk one (cycTo N l size j)) j) (pk one (cycTo N l size N)) := by
    intro e
    induction e with
    | zero =>
      intro j hj
      obtain rfl : j = N := by omega
      refine Ev.step (fun k => by rw [remouldref05_cycles.l0, if_neg (by omega)]) ?_
      exact Ev.step (fun k => by rw [remouldref05_cycles.j1, if_neg (by decide)]) (Ev.const _)
    | succ e ihe =>
      intro j hj
      have ihe' := ihe (j + 1) (by omega)
      have hmore : ((one = true → cycTo N l size j = []) → Ev (fun k => remouldref05_cycles.j1 k N l [] size one (pk one (cycTo N l size j)) j true) (pk one (cycTo N l size N))) := by
        intro hemp
        rw [cycTo_succ, pk_append hemp] at ihe'
        refine Ev.step (fun k => by rw [remouldref05_cycles.j1, if_pos rfl, if_neg (by simp)]) ?_
        refine Ev.step (fun k => by rw [remouldref05_cycles.j2, if_neg (by decide)]) ?_
        refine Ev.step (fun k => by rw [remouldref05_cycles.l1, if_neg (by simp), if_pos rfl, if_pos (by simp), Option.bind_some, if_pos (by simp)]) ?_
        have hin := cycles_f N hN l hl size hs3 hs12 hodd one (size - 1) [(j : Int)] (PathIs.one l _) (by simp; omega) (by show (0 : Int) ≤ (j : Int); omega)
        refine Ev.bind hin ?_
        have b1 := cycTo_len N l size (by omega) j
        have b2 := pk_len one (cycTo N l size j)
        have b3 := pk_len one (cycB N l size (size - 1) [(j : Int)])
        have b4 := cyc_len N l size (by omega) (size - 1) [(j : Int)] (by simp) (by show (0 : Int) ≤ (j : Int); omega)
        have b5 : j * 11 ^ (size - 1) ≤ 12 * 11 ^ 10 := Nat.mul_le_mul (by omega) hpow
        refine Ev.congr (fun k => ?_) ihe'
        rw [if_pos (by omega), wrap64_id _ (by omega) (by omega)]
        rfl
      cases hone : one
      · subst hone
        refine Ev.step (fun k => by rw [remouldref05_cycles.l0, if_pos (by omega), if_neg (by decide)]) ?_
        exact hmore (fun h => by cases h)
      · subst hone
        refine Ev.step (fun k => by rw [remouldref05_cycles.l0, if_pos (by omega), if_pos rfl]) ?_
        by_cases hemp : cycTo N l size j = []
        · have := hmore (fun _ => hemp)
          have hz : (((pk true (cycTo N l size j)).length : Int) == 0) = true := by rw [hemp]; rfl
          rw [hz]; exact this
        · have hpre := cycTo_le N l size j (N - j)
          rw [show j + (N - j) = N by omega] at hpre
          have hz : (((pk true (cycTo N l size j)).length : Int) == 0) = false := by
            cases hh : cycTo N l size j with
            | nil => exact absurd hh hemp
            | cons a b => simp [pk]
          rw [hz, pk_stop hpre hemp]
          exact Ev.step (fun k => by rw [remouldref05_cycles.j1, if_neg (by decide)]) (Ev.const _)
  have h1 := hloop N 0 (by omega)
  refine Ev.step (fun k => by rw [remouldref05_cycles.f, if_neg (by simp; omega)]) ?_
  have hz : pk one (cycTo N l size 0) = [] := by cases one <;> rfl
  rw [hz] at h1
  exact h1
theorem odd_l0 (N : Nat) (hN : N ≤ 12) (l : List S49) (hl : l.length ≤ 41) (x : List Int) : ∀ d j : Nat, (∃ k, k = j + d ∧ 2 * k + 3 ≤ N ∧ [x] <+: cyclesB N l (2 * k + 3)) → (∀ i, j ≤ i → i < j + d → cyclesB N l (2 * i + 3) = []) →
    Ev (fun k => remouldref05_Odd.l0 k N l ((2 * j + 3 : Nat) : Int)) (x, true) := by
  intro d
  induction d with
  | zero =>
    rintro j ⟨k, hkj, hk, hx⟩ _
    rw [show k = j by omega] at hk hx
    obtain ⟨t, ht⟩ := hx
    refine Ev.step (fun k => by rw [remouldref05_Odd.l0]) (Ev.bind (cycles_top N hN l hl (2 * j + 3) (by omega) (by omega) (by omega) true) ?_)
    rw [← ht]
    exact Ev.const _
  | succ d ih =>
    rintro j ⟨k, rfl, hk, hx⟩ hno
    refine Ev.step (fun k => by rw [remouldref05_Odd.l0]) (Ev.bind (cycles_top N hN l hl (2 * j + 3) (by omega) (by omega) (by omega) true) ?_)
    rw [hno j (by omega) (by omega)]
    have := ih (j + 1) ⟨j + (d + 1), by omega, hk, hx⟩ (fun i h1 h2 => hno i (by omega) (by omega))
    refine Ev.congr (fun k => ?_) this
    rw [if_neg (by simp [pk]), wrap64_id _ (by omega) (by omega)]
    congr 1
theorem upIn_of {N : Int} {l : List S49} (h : graphOk N l = true) : UpIn N l := by
  intro e he
  obtain ⟨i, hi, rfl⟩ := List.getElem_of_mem he
  have := (edgeOk_iff ..).1 (graphOk_edge h i hi).1
  rw [rd_at l i hi] at this
  omega
/-- The first one of the shortest odd cycles. -/
theorem odd_first (N : Nat) (h0 : 1 ≤ N) (hN : N ≤ 12) (l : List S49) (hg : graphOk N l = true) (hv : evenB N l = none) : ∃ (j : Nat) (x : List Int), 2 * j + 3 ≤ N ∧ [x] <+: cyclesB N l (2 * j + 3) ∧ (∀ i, i < j → cyclesB N l (2 * i + 3) = []) ∧ ((oddSizes N).flatMap fun k => cyclesB N l k).headD [] = x ∧ x ∈ cyclesB N l (2 * j + 3) := by
  have hU := upIn_of hg
  have hno : ∀ s, s < 2 ^ N → allCut N l s = false := by
    rw [even_all N h0 l (graphOk_edges hg), List.find?_eq_none] at hv
    intro s hs
    have := hv s (by simpa using hs)
    simpa using this
  obtain ⟨k, h1, h2, h3, h4⟩ := odd_exists hU hno
  obtain ⟨j, hj, hmin⟩ := least (fun j => 2 * j + 3 ≤ N ∧ cyclesB N l (2 * j + 3) ≠ []) ⟨(k - 3) / 2, by omega, by rw [show 2 * ((k - 3) / 2) + 3 = k by omega]; exact h4⟩
  have hbef : ∀ i, i < j → cyclesB N l (2 * i + 3) = [] := fun i hi => by
    cases hc : cyclesB N l (2 * i + 3) with
    | nil => rfl
    | cons a b => exact absurd ⟨by omega, by rw [hc]; simp⟩ (hmin i hi)
  cases hc : cyclesB N l (2 * j + 3) with
  | nil => exact absurd hc hj.2
  | cons x t =>
    have hx : [x] <+: cyclesB N l (2 * j + 3) := by rw [hc]; exact ⟨t, rfl⟩
    exact ⟨j, x, hj.1, hx, hbef, odd_some (by omega) hbef hx, hx.subset (List.mem_singleton.2 rfl)⟩
theorem odd_f (N : Nat) (h0 : 1 ≤ N) (hN : N ≤ 12) (l : List S49) (hl : l.length ≤ 41) (hg : graphOk N l = true) :
    Ev (fun k => remouldref05_Odd.f k N l) (match evenB N l with | some _ => ([], false) | none => (((oddSizes N).flatMap fun k => cyclesB N l k).headD [], true)) := by
  have hb := sides_f N l hl (by omega) (by omega) (graphOk_edges hg)
  cases hv : evenB N l with
  | some s =>
    rw [hv] at hb
    exact Ev.bind hb (Ev.const _)
  | none =>
    rw [hv] at hb
    obtain ⟨j, x, h1, h2, h3, h4, _⟩ := odd_first N h0 hN l hg hv
    refine Ev.bind hb ?_
    show Ev _ (((oddSizes N).flatMap fun k => cyclesB N l k).headD [], true)
    rw [h4]
    exact odd_l0 N hN l hl x j 0 ⟨j, by omega, h1, h2⟩ (fun i _ hi => h3 i (by omega))

theorem pureOdds (a0 : Int) (l1 : List S49) : ∃ k, remouldlaw05_BeltOdds.f k a0 l1 = some true := by
  apply Ev.get
  have hl : (l1.take 41).length ≤ 41 := by simp; omega
  have hg := graph_f a0 (l1.take 41) hl
  have e0 : Ev (fun _ : Nat => remouldlaw05_edges.f l1) (l1.take 41) := ⟨0, fun _ _ => edges_f l1⟩
  refine Ev.bind e0 ?_
  generalize l1.take 41 = x at hl hg
  have haw : Ev (fun k => (remouldlaw05_awake.f k).bind fun t => some t) true := Ev.bind awake_f (Ev.const true)
  cases h : graphOk a0 x
  · rw [h] at hg
    have b1 : Ev (fun _ : Nat => belt_Odd.f a0 x) ([], 2) := ⟨0, fun _ _ => by rw [belt_Odd.f, h]; rfl⟩
    refine Ev.bind b1 (Ev.bind hg ?_)
    exact Ev.congr (h := fun k => (remouldlaw05_awake.f k).bind fun t => some t) (fun k => by simp) haw
  · obtain ⟨h0, hn⟩ := graphOk_n h
    rw [h] at hg
    obtain ⟨N, rfl⟩ := Int.eq_ofNat_of_zero_le (show 0 ≤ a0 by omega)
    have hb := odd_f N (by omega) (by omega) x hl h
    cases hv : evenB N x with
    | some s =>
      rw [hv] at hb
      have b1 : Ev (fun _ : Nat => belt_Odd.f N x) ([], 6) := ⟨0, fun _ _ => by rw [belt_Odd.f, h, hv]; rfl⟩
      refine Ev.bind b1 (Ev.bind hg ?_)
      refine Ev.congr (fun k => if_pos rfl) (Ev.bind hb ?_)
      exact Ev.congr (h := fun k => (remouldlaw05_awake.f k).bind fun t => some t) (fun k => by simp) haw
    | none =>
      rw [hv] at hb
      obtain ⟨j, y, g1, g2, g3, g4, g5⟩ := odd_first N (by omega) (by omega) x h hv
      have hy := cycles_mem_len (by omega) g5
      rw [g4] at hb
      have b1 : Ev (fun _ : Nat => belt_Odd.f N x) (y, 0) := ⟨0, fun _ _ => by rw [belt_Odd.f, h, hv, ← g4]; rfl⟩
      refine Ev.bind b1 (Ev.bind hg ?_)
      refine Ev.congr (fun k => if_pos rfl) (Ev.bind hb ?_)
      refine Ev.congr (fun k => if_pos rfl) ?_
      have hi := ints_f y y (by omega)
      rw [decide_eq_true rfl] at hi
      refine Ev.bind hi ?_
      exact Ev.congr (h := fun k => (remouldlaw05_awake.f k).bind fun t => some t) (fun k => by simp) haw

end Go.Proofs.Ytkefmlhkejoknaa.L
