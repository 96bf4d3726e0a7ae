/- Plain law: what BeltAparts leans on (lines of P1 to P37). -/
import Derived.Test.YtkefmlhkejoknabL7
import Derived.Test.YtkefmlhkejoknabXApart
namespace Go.Proofs.Ytkefmlhkejoknab.L
set_option linter.unusedVariables false
set_option linter.unusedSimpArgs false
open Go.RowKit Go.Proofs.YtkefmlhkejoknabW.PrintWords Go.Proofs.YtkefmlhkejoknabW.PrintLast Go.Proofs.YtkefmlhkejoknabW.PrintMore

/-- From some figure on, it is r. -/
def Ev {α : Type} (g : Nat → Option α) (r : α) : Prop := ∃ K, ∀ k, K ≤ k → g k = some r
theorem Ev.const {α : Type} (r : α) : Ev (fun _ => some r) r := ⟨0, fun _ _ => rfl⟩
theorem Ev.step {α : Type} {g h : Nat → Option α} {r : α} (he : ∀ k, g (k + 1) = h k) (hh : Ev h r) : Ev g r := by
  obtain ⟨K, hK⟩ := hh
  refine ⟨K + 1, fun k hk => ?_⟩
  obtain ⟨j, rfl⟩ : ∃ j, k = j + 1 := ⟨k - 1, by omega⟩
  rw [he]; exact hK j (by omega)
theorem Ev.bind {α β : Type} {g : Nat → Option α} {h : Nat → α → Option β} {a : α} {b : β} (hg : Ev g a) (hh : Ev (fun k => h k a) b) : Ev (fun k => (g k).bind (h k)) b := by
  obtain ⟨K, hK⟩ := hg
  obtain ⟨M, hM⟩ := hh
  refine ⟨K + M, fun k hk => ?_⟩
  show (g k).bind (h k) = some b
  rw [hK k (by omega)]
  exact hM k (by omega)
theorem Ev.congr {α : Type} {g h : Nat → Option α} {r : α} (he : ∀ k, g k = h k) (hh : Ev h r) : Ev g r := by
  obtain ⟨K, hK⟩ := hh
  exact ⟨K, fun k hk => (he k).trans (hK k hk)⟩
theorem Ev.get {α : Type} {g : Nat → Option α} {r : α} (h : Ev g r) : ∃ k, g k = some r := by
  obtain ⟨K, hK⟩ := h
  exact ⟨K, hK K (Nat.le_refl _)⟩
theorem wrap64_id (x : Int) (h1 : -9223372036854775808 ≤ x) (h2 : x ≤ 9223372036854775807) : wrap64 x = x := by
  unfold wrap64; omega

/-- A list is cut as the law cuts it. -/
theorem edges_f (l : List S46) : remouldlaw05_edges.f l = some (l.take 41) := by
  unfold remouldlaw05_edges.f mn
  by_cases h : 41 < (l.length : Int)
  · rw [if_pos h]
    simp only [Int.reduceLE, if_true, Option.bind_some, List.nil_append, List.length_nil]
    rw [if_pos (by omega), if_pos (by simp; omega)]
    rfl
  · rw [if_neg h, if_pos (by omega), if_pos (by omega)]
    simp only [Option.bind_some, List.nil_append, List.length_nil]
    rw [if_pos (by simp; omega)]
    have e : (l.length : Int).toNat = l.length := by omega
    rw [e, List.take_of_length_le (Nat.le_refl _), List.take_of_length_le (by omega)]

/-- The edge at a place. -/
theorem rd_at (l : List S46) (i : Nat) (h : i < l.length) : rd_T46 l (i : Int) = l[i] := by simp [rd_T46, List.getElem?_eq_getElem h]

/-- The inner loop of Graph: no edge before i has the same ends. -/
theorem graph_l1 (n : Int) (l : List S46) (i : Nat) (hi : i < l.length) (hl : l.length ≤ 41) (r : Bool) (hr : hasEdge (l.take i) (rd_T46 l (i : Int)).f0 (rd_T46 l (i : Int)).f1 = false → Ev (fun k => remouldref05_Graph.l0 k n l ((i : Int) + 1)) r) (hf : hasEdge (l.take i) (rd_T46 l (i : Int)).f0 (rd_T46 l (i : Int)).f1 = true → r = false) :
    ∀ d k' : Nat, k' + d = i → hasEdge (l.take k') (rd_T46 l (i : Int)).f0 (rd_T46 l (i : Int)).f1 = false → Ev (fun k => remouldref05_Graph.l1 k n l (i : Int) (k' : Int)) r := by
  intro d
  induction d with
  | zero =>
    intro k' hk h0
    obtain rfl : k' = i := by omega
    refine Ev.step (fun k => by rw [remouldref05_Graph.l1, if_neg (by omega), wrap64_id _ (by omega) (by omega)]) (hr h0)
  | succ d ih =>
    intro k' hk h0
    have hsnoc : hasEdge (l.take (k' + 1)) (rd_T46 l (i : Int)).f0 (rd_T46 l (i : Int)).f1 = (((rd_T46 l (k' : Int)).f0 == (rd_T46 l (i : Int)).f0) && ((rd_T46 l (k' : Int)).f1 == (rd_T46 l (i : Int)).f1)) := by
      rw [List.take_succ_eq_append_getElem (by omega : k' < l.length), ← rd_at l k' (by omega)]
      simp only [hasEdge, List.any_append, List.any_cons, List.any_nil, Bool.or_false]
      rw [show (l.take k').any (fun e => e.f0 == (rd_T46 l (i : Int)).f0 && e.f1 == (rd_T46 l (i : Int)).f1) = false from h0, Bool.false_or]
    have hmore : hasEdge (l.take (k' + 1)) (rd_T46 l (i : Int)).f0 (rd_T46 l (i : Int)).f1 = true → r = false := fun h => hf (by
      unfold hasEdge at h ⊢
      rw [List.any_eq_true] at h ⊢
      obtain ⟨x, hx, hp⟩ := h
      exact ⟨x, (List.take_sublist_take_left (by omega : k' + 1 ≤ i)).subset hx, hp⟩)
    have hbody : ∀ k, remouldref05_Graph.l1 (k + 1) n l (i : Int) (k' : Int) = (if (rd_T46 l (k' : Int)).f0 = (rd_T46 l (i : Int)).f0 then (if (rd_T46 l (k' : Int)).f1 = (rd_T46 l (i : Int)).f1 then some false else remouldref05_Graph.l1 k n l (i : Int) ((k' + 1 : Nat) : Int)) else remouldref05_Graph.l1 k n l (i : Int) ((k' + 1 : Nat) : Int)) := by
      intro k
      rw [remouldref05_Graph.l1, if_pos (by omega), if_pos (by omega), if_pos (by omega), if_pos (by omega), if_pos (by omega), wrap64_id _ (by omega) (by omega)]
      rfl
    by_cases e0 : (rd_T46 l (k' : Int)).f0 = (rd_T46 l (i : Int)).f0
    · by_cases e1 : (rd_T46 l (k' : Int)).f1 = (rd_T46 l (i : Int)).f1
      · have : r = false := hmore (by rw [hsnoc, e0, e1]; simp)
        subst this
        exact Ev.step (fun k => by rw [hbody, if_pos e0, if_pos e1]) (Ev.const false)
      · exact Ev.step (fun k => by rw [hbody, if_pos e0, if_neg e1]) (ih (k' + 1) (by omega) (by rw [hsnoc]; simp [e1]))
    · exact Ev.step (fun k => by rw [hbody, if_neg e0]) (ih (k' + 1) (by omega) (by rw [hsnoc]; simp [e0]))

theorem edgesOk_bad (n : Int) (l : List S46) (i : Nat) (hi : i < l.length) (h : edgesOk n l (i + 1) = false) : edgesOk n l l.length = false := by
  cases hh : edgesOk n l l.length
  · rfl
  · have := edgesOk_le n l (i + 1) (l.length - (i + 1)) (by rw [show i + 1 + (l.length - (i + 1)) = l.length by omega]; exact hh)
    rw [h] at this; cases this

theorem graph_l0 (n : Int) (l : List S46) (hl : l.length ≤ 41) : ∀ d i : Nat, i + d = l.length → edgesOk n l i = true → Ev (fun k => remouldref05_Graph.l0 k n l (i : Int)) (edgesOk n l l.length) := by
  intro d
  induction d with
  | zero =>
    intro i hi h
    obtain rfl : i = l.length := by omega
    rw [h]
    exact Ev.step (fun k => by rw [remouldref05_Graph.l0, if_neg (by omega)]) (Ev.const true)
  | succ d ih =>
    intro i hi h
    have hlt : i < l.length := by omega
    have hs := edgesOk_succ n l i hlt
    rw [h, Bool.true_and] at hs
    have htrue : edgeOk n (rd_T46 l (i : Int)) = false → Ev (fun k => remouldref05_Graph.j2 k n l (i : Int) true) (edgesOk n l l.length) := fun hb => by
      rw [edgesOk_bad n l i hlt (by rw [hs, hb]; rfl)]
      exact Ev.step (fun k => by rw [remouldref05_Graph.j2, if_pos rfl]) (Ev.const false)
    have hfalse : edgeOk n (rd_T46 l (i : Int)) = true → Ev (fun k => remouldref05_Graph.j2 k n l (i : Int) false) (edgesOk n l l.length) := fun hb => by
      refine Ev.step (fun k => by rw [remouldref05_Graph.j2, if_neg (by decide)]) ?_
      refine graph_l1 n l i hlt hl _ (fun h0 => ?_) (fun h0 => ?_) i 0 (by omega) (by simp [hasEdge])
      · exact ih (i + 1) (by omega) (by rw [hs, hb, h0]; rfl)
      · exact edgesOk_bad n l i hlt (by rw [hs, hb, h0]; rfl)
    have hok := edgeOk_iff n (rd_T46 l (i : Int))
    obtain ⟨e, he⟩ : ∃ e, rd_T46 l (i : Int) = e := ⟨_, rfl⟩
    rw [he] at hs htrue hfalse hok
    refine Ev.step (h := fun k => (if e.f0 < 0 then (remouldref05_Graph.j2 k n l i true) else (if e.f0 ≥ e.f1 then (remouldref05_Graph.j2 k n l i true) else (if e.f1 ≥ n then (remouldref05_Graph.j2 k n l i true) else (if e.f2 < (-50) then (remouldref05_Graph.j2 k n l i true) else (remouldref05_Graph.j2 k n l i (decide (e.f2 > 50)))))))) (fun k => ?_) ?_
    · show remouldref05_Graph.l0 (k + 1) n l i = _
      rw [remouldref05_Graph.l0, if_pos (by omega), if_pos (by omega), he]
    · by_cases c1 : e.f0 < 0
      · exact Ev.congr (fun k => if_pos c1) (htrue (Bool.eq_false_iff.2 (fun hh => by have := hok.1 hh; omega)))
      · refine Ev.congr (fun k => if_neg c1) ?_
        by_cases c2 : e.f0 ≥ e.f1
        · exact Ev.congr (fun k => if_pos c2) (htrue (Bool.eq_false_iff.2 (fun hh => by have := hok.1 hh; omega)))
        · refine Ev.congr (fun k => if_neg c2) ?_
          by_cases c3 : e.f1 ≥ n
          · exact Ev.congr (fun k => if_pos c3) (htrue (Bool.eq_false_iff.2 (fun hh => by have := hok.1 hh; omega)))
          · refine Ev.congr (fun k => if_neg c3) ?_
            by_cases c4 : e.f2 < -50
            · exact Ev.congr (fun k => if_pos c4) (htrue (Bool.eq_false_iff.2 (fun hh => by have := hok.1 hh; omega)))
            · refine Ev.congr (fun k => if_neg c4) ?_
              by_cases c5 : e.f2 > 50
              · rw [decide_eq_true c5]
                exact htrue (Bool.eq_false_iff.2 (fun hh => by have := hok.1 hh; omega))
              · rw [decide_eq_false c5]
                exact hfalse (hok.2 (by omega))

theorem graph_f (n : Int) (l : List S46) (hl : l.length ≤ 41) : Ev (fun k => remouldref05_Graph.f k n l) (graphOk n l) := by
  have hbad : graphOk n l = false → Ev (fun k => remouldref05_Graph.j0 k n l true) (graphOk n l) := fun h => by
    rw [h]; exact Ev.step (fun k => by rw [remouldref05_Graph.j0, if_pos rfl]) (Ev.const false)
  by_cases c1 : n < 1
  · exact Ev.congr (fun k => by rw [remouldref05_Graph.f, if_pos c1]) (hbad (by simp [graphOk, inB]; omega))
  · by_cases c2 : n > 12
    · exact Ev.congr (fun k => by rw [remouldref05_Graph.f, if_neg c1, if_pos c2]) (hbad (by simp [graphOk, inB]; omega))
    · by_cases c3 : (l.length : Int) > 40
      · exact Ev.congr (fun k => by rw [remouldref05_Graph.f, if_neg c1, if_neg c2, decide_eq_true c3]) (hbad (by simp [graphOk, inB]; omega))
      · refine Ev.congr (fun k => by rw [remouldref05_Graph.f, if_neg c1, if_neg c2, decide_eq_false c3]) ?_
        refine Ev.step (fun k => by rw [remouldref05_Graph.j0, if_neg (by decide)]) ?_
        have e : graphOk n l = edgesOk n l l.length := by rw [graphOk, (inB_iff n 1 12).2 ⟨by omega, by omega⟩, decide_eq_true (show l.length ≤ 40 by omega)]; rfl
        rw [e]
        exact graph_l0 n l hl l.length 0 (by omega) rfl

theorem ints_l0 (a b : List Int) (hl : a.length = b.length) (hs : a.length ≤ 1000000) : ∀ d i : Nat, i + d = a.length → a.take i = b.take i → Ev (fun k => remouldlaw05_ints.l0 k a b (i : Int)) (decide (a = b)) := by
  intro d
  induction d with
  | zero =>
    intro i hi h
    obtain rfl : i = a.length := by omega
    rw [List.take_of_length_le (Nat.le_refl _), List.take_of_length_le (by omega)] at h
    rw [decide_eq_true h]
    exact Ev.step (fun k => by rw [remouldlaw05_ints.l0, if_neg (by omega)]) (Ev.const true)
  | succ d ih =>
    intro i hi h
    have hia : i < a.length := by omega
    have hib : i < b.length := by omega
    have ea : rd a (i : Int) = a[i] := by simp [rd, List.getElem?_eq_getElem hia]
    have eb : rd b (i : Int) = b[i] := by simp [rd, List.getElem?_eq_getElem hib]
    by_cases c : rd a (i : Int) = rd b (i : Int)
    · refine Ev.step (fun k => by rw [remouldlaw05_ints.l0, if_pos (by omega), if_pos (by omega), if_pos (by omega), if_pos c, wrap64_id _ (by omega) (by omega)]) ?_
      refine ih (i + 1) (by omega) ?_
      rw [List.take_succ_eq_append_getElem hia, List.take_succ_eq_append_getElem hib, h, ← ea, ← eb, c]
    · have hne : a ≠ b := by
        intro e; subst e; exact c rfl
      rw [decide_eq_false hne]
      exact Ev.step (fun k => by rw [remouldlaw05_ints.l0, if_pos (by omega), if_pos (by omega), if_pos (by omega), if_neg c]) (Ev.const false)
theorem ints_f (a b : List Int) (hs : a.length ≤ 1000000) : Ev (fun k => remouldlaw05_ints.f k a b) (decide (a = b)) := by
  by_cases hl : a.length = b.length
  · exact Ev.congr (fun k => by rw [remouldlaw05_ints.f, if_pos (by omega)]; rfl) (ints_l0 a b hl hs a.length 0 (by omega) rfl)
  · rw [decide_eq_false (fun e => hl (by rw [e]))]
    exact Ev.congr (fun k => by rw [remouldlaw05_ints.f, if_neg (by omega)]) (Ev.const false)

def tri : List S46 := [⟨0, 1, 1⟩, ⟨0, 2, 1⟩, ⟨1, 2, 1⟩]
theorem tri_best : belt_Best.f 3 tri = some (⟨#[48, 48, 49]⟩, 2, 0) := by rfl
theorem tri_count : belt_Count.f 3 tri = some (3, 0) := by rfl
theorem tri_odd : belt_Odd.f 3 tri = some ([0, 1, 2], 0) := by rfl
theorem tri_climb : belt_Climb.f 3 tri ⟨#[48, 48, 48]⟩ = some (⟨#[49, 48, 48]⟩, 1, 0) := by rfl

theorem awake_f : Ev (fun k => remouldlaw05_awake.f k) true := by
  have hi := ints_f [0, 1, 2] [0, 1, 2] (by simp)
  refine Ev.congr (h := fun k => (remouldlaw05_ints.f k [0, 1, 2] [0, 1, 2]).bind fun t150 => (if t150 = true then remouldlaw05_awake.j0 k false else remouldlaw05_awake.j0 k true)) (fun k => ?_) ?_
  · unfold remouldlaw05_awake.f remouldlaw05_triangle.f
    simp only [Option.bind_some]
    rw [show ([⟨0, 1, 1⟩, ⟨0, 2, 1⟩, ⟨1, 2, 1⟩] : List S46) = tri from rfl, tri_best, tri_count, tri_odd, tri_climb]
    simp only [Option.bind_some, ByteArray.toList_eq]
    rfl
  · refine Ev.bind hi ?_
    exact Ev.step (fun k => rfl) (Ev.const true)

theorem Tr.append {J : Int → Int → Prop} {k m : Nat} {a b c : Int} (h1 : Tr J k a b) (h2 : Tr J m b c) : Tr J (k + m) a c := by
  obtain ⟨p, p0, pk, hp⟩ := h1
  obtain ⟨q, q0, qm, hq⟩ := h2
  refine ⟨fun i => if i ≤ k then p i else q (i - k), ?_, ?_, fun i hi => ?_⟩
  · simp [p0]
  · by_cases hm : m = 0
    · subst hm; simp only [Nat.add_zero, Nat.le_refl, if_true]; rw [pk, ← q0]; exact qm
    · show (if k + m ≤ k then p (k + m) else q (k + m - k)) = c
      rw [if_neg (by omega), show k + m - k = m by omega]; exact qm
  · by_cases h1 : i + 1 ≤ k
    · simp only [show i ≤ k by omega, h1, if_true]; exact hp i (by omega)
    · by_cases h2 : i ≤ k
      · obtain rfl : i = k := by omega
        simp only [Nat.le_refl, if_true, h1, if_false]
        rw [pk, ← q0, show i + 1 - i = 0 + 1 by omega]
        exact hq 0 (by omega)
      · simp only [h1, h2, if_false]
        rw [show i + 1 - k = i - k + 1 by omega]
        exact hq (i - k) (by omega)
/-- An odd cycle has no two colors. -/
theorem cycle_uncut (k : Nat) (hk : k % 2 = 1) (c : Nat → Bool) (hc : c k = c 0) : ∃ i, i < k ∧ c i = c (i + 1) := by
  by_cases h : ∃ i, i < k ∧ c i = c (i + 1)
  · exact h
  · exfalso
    have h' : ∀ i, i < k → c (i + 1) = !c i := fun i hi => by
      have : ¬ c i = c (i + 1) := fun e => h ⟨i, hi, e⟩
      cases h1 : c i <;> cases h2 : c (i + 1) <;> simp_all
    have : ∀ i, i ≤ k → c i = (c 0 ^^ decide (i % 2 = 1)) := by
      intro i
      induction i with
      | zero => intro _; simp
      | succ i ih =>
        intro hi
        rw [h' i (by omega), ih (by omega)]
        by_cases e : i % 2 = 1
        · rw [decide_eq_true e, decide_eq_false (by omega)]; cases c 0 <;> rfl
        · rw [decide_eq_false e, decide_eq_true (by omega)]; cases c 0 <;> rfl
    have := this k (Nat.le_refl _)
    rw [hc, decide_eq_true hk] at this
    cases h0 : c 0 <;> rw [h0] at this <;> cases this

/-- The edges run upwards, within the vertices. -/
def UpIn (n : Int) (l : List S46) : Prop := ∀ e ∈ l, 0 ≤ e.f0 ∧ e.f0 < e.f1 ∧ e.f1 < n
theorem JB_in {n : Int} {l : List S46} (hU : UpIn n l) (a b : Int) (h : JB l a b) : 0 ≤ a ∧ a < n := by
  rw [JB_iff] at h
  obtain ⟨e, he, ⟨h0, h1, _⟩ | ⟨h0, h1, _⟩⟩ := h <;> have := hU e he <;> omega

theorem edgeAt_joined (l : List S46) (a b : Int) : 0 ≤ edgeAt l a b ↔ joinedB l a b = true := by
  unfold edgeAt
  cases h : l.findIdx? (edgeIs a b) with
  | none =>
    rw [List.findIdx?_eq_none_iff] at h
    constructor
    · intro h1; simp at h1
    · intro h1
      unfold joinedB hasEdge at h1
      rw [List.any_eq_true] at h1
      obtain ⟨x, hx, hp⟩ := h1
      have := h x hx
      unfold edgeIs at this
      rw [this] at hp; cases hp
  | some i =>
    have h1 := List.findIdx?_eq_some_iff_findIdx_eq.1 h
    constructor
    · intro _
      unfold joinedB hasEdge
      rw [List.any_eq_true]
      have hlt : i < l.length := h1.1
      have := (List.findIdx_eq hlt).1 h1.2
      exact ⟨l[i], List.getElem_mem hlt, this.1⟩
    · intro _; simp
theorem cyR_iff (l : List S46) (c : List Int) (i : Nat) : (∃ s, cyR l c i = some s) ↔ CycTo l c i := by
  induction i with
  | zero => exact ⟨fun _ j hj => by omega, fun _ => ⟨0, rfl⟩⟩
  | succ i ih =>
    rw [cyR]
    cases h : cyR l c i with
    | none =>
      have hno : ¬ CycTo l c i := fun hc => by
        obtain ⟨s, hs⟩ := ih.2 hc
        rw [h] at hs; cases hs
      refine ⟨fun h1 => ?_, fun hc => absurd (fun j hj => hc j (by omega)) hno⟩
      obtain ⟨s, hs⟩ := h1
      cases hs
    | some s =>
      have hyes : CycTo l c i := ih.1 ⟨s, h⟩
      have hj := edgeAt_joined l (rd c (i : Int)) (rd c (((i + 1) % c.length : Nat) : Int))
      simp only
      split
      · rename_i hb
        refine ⟨fun ⟨s, hs⟩ => (by cases hs), fun hc => ?_⟩
        obtain ⟨x, y, z⟩ := hc i (by omega)
        rcases hb with hb | ⟨hb, hb2⟩ | hb
        · have := hj.2 x; omega
        · have := y hb; omega
        · exact absurd (by simpa using hb) z
      · rename_i hb
        refine ⟨fun _ j hj' => ?_, fun _ => ⟨_, rfl⟩⟩
        by_cases e : j = i
        · subst e
          refine ⟨hj.1 ?_, fun h0 => ?_, fun hm => hb (.inr (.inr (by simpa using hm)))⟩
          · rcases Int.lt_or_le (edgeAt l (rd c (j : Int)) (rd c (((j + 1) % c.length : Nat) : Int))) 0 with hh | hh
            · exact absurd (.inl hh) hb
            · exact hh
          · rcases Int.lt_or_le (rd c 0) (rd c (j : Int)) with hh | hh
            · exact hh
            · exact absurd (.inr (.inl ⟨h0, hh⟩)) hb
        · exact hyes j (by omega)
theorem cycle_yes {l : List S46} {c : List Int} (hl : l.length ≤ 41) (hc : c.length ≤ 1000) (h : CycIs l c) : ∃ s, cyR l c c.length = some s ∧ remouldref05_Cycle.f l c = some ((s : Int), true) := by
  obtain ⟨h1, h2, h3, h4⟩ := h
  obtain ⟨s, hs⟩ := (cyR_iff l c c.length).2 h4
  refine ⟨s, hs, ?_⟩
  rw [remouldref05_Cycle.f, if_pos ⟨hl, hc⟩, if_neg (by omega), hs]
  rfl
theorem cycle_no {l : List S46} {c : List Int} (hl : l.length ≤ 41) (hc : c.length ≤ 1000) (h : ¬ CycIs l c) : remouldref05_Cycle.f l c = some (0, false) := by
  rw [remouldref05_Cycle.f, if_pos ⟨hl, hc⟩]
  by_cases hb : c.length < 3 ∨ c.length % 2 = 0 ∨ rd c 1 ≥ rd c ((c.length - 1 : Nat) : Int)
  · rw [if_pos hb]
  · rw [if_neg hb]
    cases hs : cyR l c c.length with
    | none => rfl
    | some s => exact absurd ⟨by omega, by omega, by omega, (cyR_iff l c c.length).1 ⟨s, hs⟩⟩ h
theorem isCycle_iff {n : Int} {l : List S46} (hU : UpIn n l) (c : List Int) : isCycleB n l c = true ↔ CycIs l c := by
  have hends : ∀ i : Nat, joinedB l (rd c (i : Int)) (rd c (((i + 1) % c.length : Nat) : Int)) = hasEdge l ((fun i => let v := c.getD i 0; let w := c.getD ((i + 1) % c.length) 0; (if v ≤ w then v else w, if v ≤ w then w else v)) i).1 ((fun i => let v := c.getD i 0; let w := c.getD ((i + 1) % c.length) 0; (if v ≤ w then v else w, if v ≤ w then w else v)) i).2 := by
    intro i
    rw [rd_getD, rd_getD]; rfl
  unfold isCycleB CycIs CycTo
  rw [Bool.and_eq_true, Bool.and_eq_true, Bool.and_eq_true, Bool.and_eq_true, decide_eq_true_eq, decide_eq_true_eq, decide_eq_true_eq, List.all_eq_true, List.all_eq_true, getLast_getD]
  constructor
  · rintro ⟨⟨⟨⟨h1, h2⟩, h3⟩, h4⟩, h5⟩
    have hall : ∀ j, j < c.length → joinedB l (rd c (j : Int)) (rd c (((j + 1) % c.length : Nat) : Int)) = true ∧ (0 < j → rd c 0 < rd c (j : Int)) ∧ rd c (j : Int) ∉ c.take j := by
      intro j hj
      have a := h4 j (by simpa using hj)
      simp only [Bool.and_eq_true, decide_eq_true_eq, Bool.not_eq_true', Bool.and_eq_false_iff, decide_eq_false_iff_not] at a
      refine ⟨?_, fun h0 => ?_, ?_⟩
      · rw [hends]
        apply h5
        unfold endsB
        rw [List.mem_map]
        exact ⟨j, by simpa using hj, rfl⟩
      · rw [rd_getD, show rd c 0 = c.getD 0 0 from rd_getD c 0]
        rcases a.1.2 with b | b
        · exact absurd h0 b
        · omega
      · rw [rd_getD]
        intro hm
        have := a.2
        rw [Bool.eq_false_iff] at this
        exact this (by simpa using hm)
    refine ⟨h1, h2, ?_, hall⟩
    rw [show rd c 1 = c.getD 1 0 from rd_getD c 1, rd_getD]
    have hne : c.getD 1 0 ≠ c.getD (c.length - 1) 0 := by
      intro e
      have := (hall (c.length - 1) (by omega)).2.2
      rw [rd_getD, ← e] at this
      apply this
      rw [List.mem_take_iff_getElem]
      refine ⟨1, by omega, ?_⟩
      rw [List.getD_eq_getElem?_getD, List.getElem?_eq_getElem (by omega)]
      rfl
    omega
  · rintro ⟨h1, h2, h3, h4⟩
    refine ⟨⟨⟨⟨h1, h2⟩, ?_⟩, fun i hi => ?_⟩, fun p hp => ?_⟩
    · rw [show rd c 1 = c.getD 1 0 from rd_getD c 1, rd_getD] at h3
      omega
    · have hi' : i < c.length := by simpa using hi
      obtain ⟨a, b, d⟩ := h4 i hi'
      have hb := JB_in hU _ _ a
      rw [rd_getD] at hb b d
      rw [show rd c 0 = c.getD 0 0 from rd_getD c 0] at b
      simp only [Bool.and_eq_true, decide_eq_true_eq, Bool.not_eq_true', Bool.and_eq_false_iff, decide_eq_false_iff_not]
      refine ⟨⟨⟨hb.1, by omega⟩, ?_⟩, ?_⟩
      · by_cases h0 : 0 < i
        · exact .inr (by have := b h0; omega)
        · exact .inl h0
      · rw [Bool.eq_false_iff]; intro hm; exact d (by simpa using hm)
    · unfold endsB at hp
      rw [List.mem_map] at hp
      obtain ⟨i, hi, rfl⟩ := hp
      rw [← hends]
      exact (h4 i (by simpa using hi)).1
theorem add_bit (k : Nat) : ∀ s : Nat, s.testBit k = false → s + 2 ^ k = s ||| 2 ^ k := by
  induction k with
  | zero =>
    intro s h
    rw [Nat.testBit_zero] at h
    have h2 : s % 2 = 0 := by simpa using h
    have := Nat.two_pow_add_eq_or_of_lt (show 1 < 2 ^ 1 by decide) (s / 2)
    rw [show 2 ^ 1 * (s / 2) = s by omega] at this
    simpa using this
  | succ k ih =>
    intro s h
    rw [Nat.testBit_succ] at h
    have h1 := ih (s / 2) h
    have e1 : s + 2 ^ (k + 1) = 2 ^ 1 * (s / 2 + 2 ^ k) + s % 2 := by rw [Nat.pow_succ]; omega
    have hm : s % 2 < 2 ^ 1 := by omega
    rw [e1, Nat.two_pow_add_eq_or_of_lt hm, h1]
    apply Nat.eq_of_testBit_eq
    intro i
    rw [Nat.testBit_or, Nat.testBit_or, Nat.testBit_two_pow]
    cases i with
    | zero => simp [Nat.testBit_zero]
    | succ i =>
      have a : (2 ^ 1 * (s / 2 ||| 2 ^ k)).testBit (i + 1) = (s / 2 ||| 2 ^ k).testBit i := by
        rw [Nat.testBit_succ]; congr 1; omega
      have b : (s % 2).testBit (i + 1) = false := Nat.testBit_lt_two_pow (by have := Nat.two_pow_pos i; rw [Nat.pow_succ]; omega)
      rw [a, b, Nat.testBit_or, Nat.testBit_two_pow, Bool.or_false, Nat.testBit_succ]
      congr 1
      simp
/-- The place of a pair. -/
def posOf (l : List S46) (p : Int × Int) : Nat := (l.findIdx? fun e => e.f0 == p.1 && e.f1 == p.2).getD l.length
theorem posOf_some {l : List S46} {p : Int × Int} (h : hasEdge l p.1 p.2 = true) : ∃ hlt : posOf l p < l.length, l[posOf l p].f0 = p.1 ∧ l[posOf l p].f1 = p.2 := by
  unfold posOf
  cases hf : l.findIdx? (fun e => e.f0 == p.1 && e.f1 == p.2) with
  | none =>
    rw [List.findIdx?_eq_none_iff] at hf
    unfold hasEdge at h
    rw [List.any_eq_true] at h
    obtain ⟨x, hx, hp⟩ := h
    rw [hf x hx] at hp; cases hp
  | some i =>
    have h1 := List.findIdx?_eq_some_iff_findIdx_eq.1 hf
    have hlt : i < l.length := h1.1
    have := ((List.findIdx_eq hlt).1 h1.2).1
    simp only [Bool.and_eq_true, beq_iff_eq] at this
    exact ⟨hlt, this⟩
theorem posOf_inj {l : List S46} {p q : Int × Int} (hp : hasEdge l p.1 p.2 = true) (hq : hasEdge l q.1 q.2 = true) (h : posOf l p = posOf l q) : p = q := by
  obtain ⟨a, a0, a1⟩ := posOf_some hp
  obtain ⟨b, b0, b1⟩ := posOf_some hq
  simp only [h] at a0 a1
  exact Prod.ext (a0.symm.trans b0) (a1.symm.trans b1)
theorem edge_pos (l : List S46) (c : List Int) (i : Nat) (h : joinedB l (rd c (i : Int)) (rd c (((i + 1) % c.length : Nat) : Int)) = true) :
    hasEdge l (endAt c i).1 (endAt c i).2 = true ∧ (edgeAt l (rd c (i : Int)) (rd c (((i + 1) % c.length : Nat) : Int))).toNat = posOf l (endAt c i) := by
  have h1 : hasEdge l (endAt c i).1 (endAt c i).2 = true := by
    rw [rd_getD, rd_getD] at h; exact h
  refine ⟨h1, ?_⟩
  have h2 := (edgeAt_joined l _ _).2 h
  rw [rd_getD, rd_getD] at h2 ⊢
  unfold edgeAt at h2 ⊢
  unfold posOf
  have e : edgeIs (c.getD i 0) (c.getD ((i + 1) % c.length) 0) = fun e : S46 => e.f0 == (endAt c i).1 && e.f1 == (endAt c i).2 := rfl
  rw [e] at h2 ⊢
  cases hf : l.findIdx? (fun e : S46 => e.f0 == (endAt c i).1 && e.f1 == (endAt c i).2) with
  | none => rw [hf] at h2; simp at h2
  | some j => simp
/-- The edges as digits. -/
def maskOf (l : List S46) : List (Int × Int) → Nat
  | [] => 0
  | p :: ps => maskOf l ps ||| 2 ^ posOf l p
theorem mask_test (l : List S46) (ps : List (Int × Int)) (j : Nat) : (maskOf l ps).testBit j = ps.any fun p => posOf l p == j := by
  induction ps with
  | nil => simp [maskOf]
  | cons p ps ih => rw [maskOf, Nat.testBit_or, ih, Nat.testBit_two_pow, List.any_cons, Bool.or_comm]; rfl
theorem mask_append (l : List S46) (a b : List (Int × Int)) : maskOf l (a ++ b) = maskOf l a ||| maskOf l b := by
  apply Nat.eq_of_testBit_eq; intro j
  rw [Nat.testBit_or, mask_test, mask_test, mask_test, List.any_append]
theorem mask_lt (l : List S46) (ps : List (Int × Int)) (h : ∀ p ∈ ps, hasEdge l p.1 p.2 = true) : maskOf l ps < 2 ^ l.length := by
  induction ps with
  | nil => exact Nat.two_pow_pos _
  | cons p ps ih =>
    rw [maskOf]
    obtain ⟨hlt, _⟩ := posOf_some (h p List.mem_cons_self)
    exact Nat.or_lt_two_pow (ih fun q hq => h q (List.mem_cons_of_mem _ hq)) (Nat.pow_lt_pow_right (by omega) hlt)
/-- Cycle's number is the mask of its edges. -/
theorem cyR_mask {l : List S46} {c : List Int} (h : CycIs l c) : ∀ i, i ≤ c.length → cyR l c i = some (maskOf l ((List.range i).map (endAt c))) := by
  obtain ⟨h3, _, _, h4⟩ := h
  intro i
  induction i with
  | zero => intro _; rfl
  | succ i ih =>
    intro hi
    obtain ⟨s, hs⟩ := (cyR_iff l c (i + 1)).2 (fun j hj => h4 j (by omega))
    have ih' := ih (by omega)
    rw [cyR, ih'] at hs ⊢
    simp only at hs ⊢
    split at hs
    · cases hs
    · rename_i hb
      rw [if_neg hb]
      obtain ⟨e1, e2⟩ := edge_pos l c i (h4 i (by omega)).1
      rw [e2, List.range_succ, List.map_append, mask_append]
      congr 1
      show _ = _ ||| (0 ||| 2 ^ posOf l (endAt c i))
      rw [Nat.zero_or]
      apply add_bit
      rw [mask_test, Bool.eq_false_iff]
      intro hm
      rw [List.any_eq_true] at hm
      obtain ⟨p, hp, he⟩ := hm
      rw [List.mem_map] at hp
      obtain ⟨j, hj, rfl⟩ := hp
      have hj' : j < i := by simpa using hj
      exact ends_ne h3 (fun j hj => (h4 j hj).2.2) j i hj' (by omega) (posOf_inj (edge_pos l c j (h4 j (by omega)).1).1 e1 (eq_of_beq he))
/-- The ends are free exactly if the masks have no digit in common. -/
theorem freeB_iff (used ps : List (Int × Int)) (hd : ps.Nodup) : freeB used ps = true ↔ ∀ p ∈ ps, p ∉ used := by
  induction ps generalizing used with
  | nil => simp [freeB]
  | cons p ps ih =>
    rw [List.nodup_cons] at hd
    rw [freeB, Bool.and_eq_true, ih _ hd.2]
    constructor
    · rintro ⟨a, b⟩ q hq
      rw [List.mem_cons] at hq
      rcases hq with rfl | hq
      · simpa using a
      · intro hu; exact b q hq (List.mem_cons_of_mem _ hu)
    · intro h
      refine ⟨by have := h p List.mem_cons_self; simpa using this, fun q hq hm => ?_⟩
      rw [List.mem_cons] at hm
      rcases hm with rfl | hm
      · exact hd.1 hq
      · exact h q (List.mem_cons_of_mem _ hq) hm
theorem ends_in {l : List S46} {c : List Int} (h : CycIs l c) : ∀ p ∈ endsB c, hasEdge l p.1 p.2 = true := by
  intro p hp
  rw [endsB_eq, List.mem_map] at hp
  obtain ⟨i, hi, rfl⟩ := hp
  exact (edge_pos l c i (h.2.2.2 i (by simpa using hi)).1).1
theorem free_mask {l : List S46} {c : List Int} (h : CycIs l c) (used : List (Int × Int)) (hu : ∀ p ∈ used, hasEdge l p.1 p.2 = true) : freeB used (endsB c) = true ↔ maskOf l used &&& maskOf l (endsB c) = 0 := by
  rw [freeB_iff used _ (ends_nodup h)]
  constructor
  · intro hf
    apply Nat.eq_of_testBit_eq; intro j
    rw [Nat.testBit_and, Nat.zero_testBit, mask_test, mask_test, Bool.eq_false_iff]
    intro hb
    rw [Bool.and_eq_true, List.any_eq_true, List.any_eq_true] at hb
    obtain ⟨⟨p, hp, hp2⟩, ⟨q, hq, hq2⟩⟩ := hb
    have := posOf_inj (hu p hp) (ends_in h q hq) ((eq_of_beq hp2).trans (eq_of_beq hq2).symm)
    subst this
    exact hf p hq hp
  · intro h0 p hp hm
    have : (maskOf l used &&& maskOf l (endsB c)).testBit (posOf l p) = true := by
      rw [Nat.testBit_and, mask_test, mask_test, Bool.and_eq_true, List.any_eq_true, List.any_eq_true]
      exact ⟨⟨p, hm, by simp⟩, ⟨p, hp, by simp⟩⟩
    rw [h0, Nat.zero_testBit] at this; cases this
/-- Masks without a common digit add up to both. -/
theorem add_or (a b : Nat) : ∀ n, a < 2 ^ n → b < 2 ^ n → a &&& b = 0 → a + b = a ||| b := by
  intro n
  induction n generalizing a b with
  | zero => intro ha hb _; simp at ha hb; subst ha; subst hb; rfl
  | succ n ih =>
    intro ha hb h
    rw [Nat.pow_succ] at ha hb
    have h0 : (a / 2) &&& (b / 2) = 0 := by
      apply Nat.eq_of_testBit_eq; intro i
      have : (a &&& b).testBit (i + 1) = false := by rw [h, Nat.zero_testBit]
      rw [Nat.testBit_and, Nat.testBit_succ, Nat.testBit_succ] at this
      rw [Nat.testBit_and, Nat.zero_testBit, this]
    have h1 := ih (a / 2) (b / 2) (by omega) (by omega) h0
    have h2 : ¬ (a % 2 = 1 ∧ b % 2 = 1) := by
      intro ⟨x, y⟩
      have : (a &&& b).testBit 0 = false := by rw [h, Nat.zero_testBit]
      rw [Nat.testBit_and, Nat.testBit_zero, Nat.testBit_zero, x, y] at this
      cases this
    apply Nat.eq_of_testBit_eq; intro i
    cases i with
    | zero =>
      rw [Nat.testBit_or, Nat.testBit_zero, Nat.testBit_zero, Nat.testBit_zero]
      have h5 : (a + b) % 2 = 1 ↔ (a % 2 = 1 ∨ b % 2 = 1) := by omega
      by_cases x : a % 2 = 1 <;> by_cases y : b % 2 = 1 <;> simp [h5, x, y]
    | succ i =>
      rw [Nat.testBit_or, Nat.testBit_succ, Nat.testBit_succ, Nat.testBit_succ, show (a + b) / 2 = a / 2 + b / 2 by omega, h1, Nat.testBit_or]

/-- All of them, or the first one. -/
def pk (one : Bool) (xs : List (List Int)) : List (List Int) := if one then xs.take 1 else xs
theorem pk_append {one : Bool} {a b : List (List Int)} (h : one = true → a = []) : pk one (a ++ b) = pk one a ++ pk one b := by
  cases one
  · rfl
  · rw [h rfl]; rfl
theorem pk_stop {a b : List (List Int)} (hp : a <+: b) (hne : a ≠ []) : pk true a = pk true b := by
  obtain ⟨t, rfl⟩ := hp
  cases a with
  | nil => exact absurd rfl hne
  | cons x a => rfl
/-- How many there are at most. -/
theorem cyc_len (n : Int) (l : List S46) (size : Nat) (hn : n ≤ 12) : ∀ (d : Nat) (p : List Int), p ≠ [] → 0 ≤ rd p ((0 : Nat) : Int) → (cycB n l size d p).length ≤ 11 ^ d := by
  intro d
  induction d with
  | zero => intro p _ _; rw [cycB]; split <;> simp
  | succ d ih =>
    intro p hne h0
    have hx := cycB_step n l size d p _ _ hne rfl rfl
    rw [hx]
    have key : ∀ k, (stepTo n l size d p (rd p ((0 : Nat) : Int)) (rd p ((p.length - 1 : Nat) : Int)) k).length ≤ k * 11 ^ d := by
      intro k
      induction k with
      | zero => simp [stepTo]
      | succ k ihk =>
        rw [stepTo_succ, List.length_append, Nat.succ_mul]
        have h2 : (if joinedB l (rd p ((p.length - 1 : Nat) : Int)) (rd p ((0 : Nat) : Int) + 1 + (k : Int)) && !p.contains (rd p ((0 : Nat) : Int) + 1 + (k : Int)) then cycB n l size d (p ++ [rd p ((0 : Nat) : Int) + 1 + (k : Int)]) else []).length ≤ 11 ^ d := by
          split
          · refine ih _ (by simp) ?_
            rw [rd_snoc p _ 0 (List.length_pos_iff.2 hne)]; exact h0
          · simp
        omega
    have h1 := key (n - (rd p ((0 : Nat) : Int) + 1)).toNat
    have h2 : (n - (rd p ((0 : Nat) : Int) + 1)).toNat ≤ 11 := by omega
    have h3 := Nat.mul_le_mul_right (11 ^ d) h2
    rw [Nat.pow_succ, Nat.mul_comm]
    exact Nat.le_trans h1 h3
theorem pk_len (one : Bool) (a : List (List Int)) : (pk one a).length ≤ a.length := by
  unfold pk; split
  · simp; omega
  · exact Nat.le_refl _

section
variable (N : Nat) (hN : N ≤ 12) (l : List S46) (hl : l.length ≤ 41) (size : Nat) (hs3 : 3 ≤ size) (hs12 : size ≤ 12) (hodd : size % 2 = 1) (one : Bool)
include hl
theorem edge_ev (a b : Int) : Ev (fun _ : Nat => remouldref05_edge.f l a b) (edgeAt l a b) := ⟨0, fun _ _ => by rw [remouldref05_edge.f, if_pos (by omega)]⟩
include hs3 hs12 hodd
/-- A list of the full length. -/
theorem cycles_leaf (p : List Int) (hp : PathIs l p) (hlen : p.length = size) : Ev (fun k => remouldref05_cycles.f k N l p size one) (pk one (cycB N l size 0 p)) := by
  have hli := leaf_iff hp (by omega) (by omega)
  have hc0 : cycB N l size 0 p = if rd p 1 > rd p ((p.length - 1 : Nat) : Int) ∨ joinedB l (rd p 0) (rd p ((p.length - 1 : Nat) : Int)) = false then [] else [p] := by
    have e0 : p.headD 0 = rd p 0 := by obtain ⟨hne, _⟩ := hp; cases p <;> simp [rd]
    rw [cycB, e0, getLast_getD, ← rd_getD, ← rd_getD]
    simp only [Bool.or_eq_true, decide_eq_true_eq, Bool.not_eq_true']
    rfl
  by_cases h : CycIs l p
  · obtain ⟨s, _, hs⟩ := cycle_yes hl (by omega) h
    have e1 : Ev (fun _ : Nat => remouldref05_Cycle.f l p) ((s : Int), true) := ⟨0, fun _ _ => hs⟩
    refine Ev.step (fun k => by rw [remouldref05_cycles.f, if_pos (by omega)]) (Ev.bind e1 ?_)
    rw [hc0, if_neg (hli.1 h)]
    refine Ev.congr (fun k => if_pos rfl) ?_
    have : pk one [p] = [p] := by cases one <;> rfl
    rw [this]; exact Ev.const _
  · have hs := cycle_no hl (by omega) h
    have e1 : Ev (fun _ : Nat => remouldref05_Cycle.f l p) ((0 : Int), false) := ⟨0, fun _ _ => hs⟩
    refine Ev.step (fun k => by rw [remouldref05_cycles.f, if_pos (by omega)]) (Ev.bind e1 ?_)
    have hb : rd p 1 > rd p ((p.length - 1 : Nat) : Int) ∨ joinedB l (rd p 0) (rd p ((p.length - 1 : Nat) : Int)) = false := by
      by_cases hb : rd p 1 > rd p ((p.length - 1 : Nat) : Int) ∨ joinedB l (rd p 0) (rd p ((p.length - 1 : Nat) : Int)) = false
      · exact hb
      · exact absurd (hli.2 hb) h
    rw [hc0, if_pos hb]
    refine Ev.congr (fun k => if_neg (by decide)) ?_
    have : pk one [] = [] := by cases one <;> rfl
    rw [this]; exact Ev.const _
omit hs3 hs12 hodd hl
/-- The inner loop: a vertex is free. -/
theorem cycles_free (p out : List (Int)) (hpl : p.length ≤ 1000) (acc : List (List Int)) (x : Nat) (r : List (List Int)) (hr : Ev (fun k => if decide ((x : Int) ∉ p) = true then (if ([] : List Int).length + p.length < 17592186044416 then ((some (([] : List Int) ++ p : List Int)).bind fun y228 => (if y228.length < 17592186044416 then ((remouldref05_cycles.f k N l (y228 ++ [(x : Int)]) size one).bind fun t234 => (if acc.length + t234.length < 5864062014805 then (remouldref05_cycles.l0 k N l p size one (acc ++ t234) (wrap64 ((x : Int) + 1))) else (none))) else (none))) else (none)) else (remouldref05_cycles.l0 k N l p size one acc (wrap64 ((x : Int) + 1)))) r) :
    ∀ d i : Nat, i + d = p.length → Ev (fun k => remouldref05_cycles.l1 k N l p size one acc x (decide ((x : Int) ∉ p.take i)) i) r := by
  intro d
  induction d with
  | zero =>
    intro i hi
    obtain rfl : i = p.length := by omega
    rw [List.take_of_length_le (Nat.le_refl _)]
    refine Ev.step (fun k => by rw [remouldref05_cycles.l1, if_neg (by omega)]) hr
  | succ d ih =>
    intro i hi
    have hlt : i < p.length := by omega
    have ih' := ih (i + 1) (by omega)
    have hrd : rd p (i : Int) = p[i] := by rw [rd_getD, List.getD_eq_getElem?_getD, List.getElem?_eq_getElem hlt]; rfl
    by_cases c : (x : Int) ∉ p.take i
    · rw [decide_eq_true c]
      have e : decide ((x : Int) ∉ p.take (i + 1)) = (rd p (i : Int) != (x : Int)) := by
        rw [List.take_succ_eq_append_getElem hlt, hrd]
        by_cases hh : p[i] = (x : Int)
        · rw [hh]; simp
        · rw [bne_iff_ne.2 hh, decide_eq_true]
          rw [List.mem_append, not_or]
          exact ⟨c, by simpa using fun h => hh h.symm⟩
      rw [e] at ih'
      exact Ev.step (fun k => by rw [remouldref05_cycles.l1, if_pos (by omega), if_pos rfl, if_pos (by omega), wrap64_id _ (by omega) (by omega)]; rfl) ih'
    · rw [decide_eq_false c]
      have e : decide ((x : Int) ∉ p.take (i + 1)) = false := by
        apply decide_eq_false
        intro h; apply c; intro hm; apply h
        rw [List.take_succ_eq_append_getElem hlt]
        exact List.mem_append_left _ hm
      rw [e] at ih'
      exact Ev.step (fun k => by rw [remouldref05_cycles.l1, if_pos (by omega), if_neg (by decide), wrap64_id _ (by omega) (by omega)]; rfl) ih'
include hN hl hs3 hs12 hodd
/-- Cycles that go on from a list of vertices. -/
theorem cycles_f : ∀ (d : Nat) (p : List Int), PathIs l p → p.length + d = size → 0 ≤ rd p ((0 : Nat) : Int) → Ev (fun k => remouldref05_cycles.f k N l p size one) (pk one (cycB N l size d p)) := by
  intro d
  induction d with
  | zero => intro p hp hlen _; exact cycles_leaf N l hl size hs3 hs12 hodd one p hp (by omega)
  | succ d ih =>
    intro p hp hlen h0
    have hne := hp.1
    have hpos : 0 < p.length := List.length_pos_iff.2 hne
    have hstep := cycB_step N l size d p _ _ hne rfl rfl
    generalize hx0 : rd p ((0 : Nat) : Int) = x0 at hstep h0
    generalize hxl : rd p ((p.length - 1 : Nat) : Int) = xl at hstep
    have hx0' : rd p 0 = x0 := hx0
    have hlast : rd p (wrap64 ((p.length : Int) - 1)) = xl := by
      rw [wrap64_id _ (by omega) (by omega), ← hxl]; congr 1; omega
    have hlen11 : ∀ j, j ≤ N → (stepTo N l size d p x0 xl ((j : Int) - (x0 + 1)).toNat).length ≤ 11 * 11 ^ d := by
      intro j hj
      have h1 := cyc_len N l size (by omega) (d + 1) p hne (by rw [hx0]; exact h0)
      rw [hstep, Nat.pow_succ, Nat.mul_comm] at h1
      have h2 := (stepTo_le N l size d p x0 xl ((j : Int) - (x0 + 1)).toNat (((N : Int) - (x0 + 1)).toNat - ((j : Int) - (x0 + 1)).toNat)).length_le
      rw [show ((j : Int) - (x0 + 1)).toNat + (((N : Int) - (x0 + 1)).toNat - ((j : Int) - (x0 + 1)).toNat) = ((N : Int) - (x0 + 1)).toNat by omega] at h2
      exact Nat.le_trans h2 h1
    have hpow : 11 ^ d ≤ 11 ^ 10 := Nat.pow_le_pow_right (by omega) (by omega)
    have hloop : ∀ e j : Nat, j + e = N → Ev (fun k => remouldref05_cycles.l0 k N l p size one (pk one (stepTo N l size d p x0 xl ((j : Int) - (x0 + 1)).toNat)) j) (pk one (stepTo N l size d p x0 xl ((N : Int) - (x0 + 1)).toNat)) := by
      intro e
      induction e with
      | zero =>
        intro j hj
        obtain rfl : j = N := by omega
        refine Ev.step (fun k => by rw [remouldref05_cycles.l0, if_neg (by omega)]) ?_
        exact Ev.step (fun k => by rw [remouldref05_cycles.j1, if_neg (by decide)]) (Ev.const _)
      | succ e ihe =>
        intro j hj
        have ihe' := ihe (j + 1) (by omega)
        have hmore : ((one = true → stepTo N l size d p x0 xl ((j : Int) - (x0 + 1)).toNat = []) → Ev (fun k => remouldref05_cycles.j1 k N l p size one (pk one (stepTo N l size d p x0 xl ((j : Int) - (x0 + 1)).toNat)) j true) (pk one (stepTo N l size d p x0 xl ((N : Int) - (x0 + 1)).toNat))) := by
          intro hemp
          by_cases cx : (j : Int) ≤ x0
          · have hsame : (((j + 1 : Nat) : Int) - (x0 + 1)).toNat = ((j : Int) - (x0 + 1)).toNat := by omega
            rw [hsame] at ihe'
            refine Ev.step (fun k => by rw [remouldref05_cycles.j1, if_pos rfl, if_pos (by omega), if_pos (by omega), hx0', if_pos cx]) ?_
            exact Ev.step (fun k => by rw [remouldref05_cycles.j2, if_pos rfl, wrap64_id _ (by omega) (by omega)]; rfl) ihe'
          · have hk : (((j + 1 : Nat) : Int) - (x0 + 1)).toNat = ((j : Int) - (x0 + 1)).toNat + 1 := by omega
            have hv : x0 + 1 + ((((j : Int) - (x0 + 1)).toNat : Nat) : Int) = (j : Int) := by omega
            have hsucc := stepTo_succ N l size d p x0 xl ((j : Int) - (x0 + 1)).toNat
            rw [hv] at hsucc
            rw [hk, hsucc] at ihe'
            refine Ev.step (h := fun k => (remouldref05_edge.f l xl (j : Int)).bind fun t226 => (remouldref05_cycles.j2 k N l p size one (pk one (stepTo N l size d p x0 xl ((j : Int) - (x0 + 1)).toNat)) j (decide (t226 < 0)))) (fun k => by rw [remouldref05_cycles.j1, if_pos rfl, if_pos (by omega), if_pos (by omega), hx0', if_neg cx, if_pos (by rw [wrap64_id _ (by omega) (by omega)]; omega), if_pos (by rw [wrap64_id _ (by omega) (by omega)]; omega), hlast]) ?_
            refine Ev.bind (edge_ev l hl xl j) ?_
            have hej := edgeAt_joined l xl (j : Int)
            by_cases cj : joinedB l xl (j : Int) = true
            · have hge := hej.2 cj
              rw [decide_eq_false (by omega)]
              refine Ev.step (fun k => by rw [remouldref05_cycles.j2, if_neg (by decide)]) ?_
              refine cycles_free N l size one p p (by omega) _ j _ ?_ p.length 0 (by omega)
              by_cases cf : (j : Int) ∉ p
              · rw [decide_eq_true cf]
                have hcond : (joinedB l xl (j : Int) && !p.contains (j : Int)) = true := by
                  rw [cj, Bool.true_and, Bool.not_eq_true', Bool.eq_false_iff]; intro h; exact cf (by simpa using h)
                rw [if_pos hcond] at hsucc ihe'
                have hp' : PathIs l (p ++ [(j : Int)]) := hp.snoc (by rw [hxl]; exact cj) (by rw [hx0']; omega) cf
                have hh0 : rd (p ++ [(j : Int)]) ((0 : Nat) : Int) = x0 := by rw [rd_snoc p _ 0 hpos]; exact hx0
                have hin := ih (p ++ [(j : Int)]) hp' (by simp; omega) (by rw [hh0]; exact h0)
                rw [pk_append hemp] at ihe'
                refine Ev.congr (fun k => if_pos rfl) ?_
                refine Ev.congr (fun k => if_pos (by simp; omega)) ?_
                refine Ev.congr (h := fun k => (remouldref05_cycles.f k N l (p ++ [(j : Int)]) size one).bind fun t234 => (if (pk one (stepTo N l size d p x0 xl ((j : Int) - (x0 + 1)).toNat)).length + t234.length < 5864062014805 then (remouldref05_cycles.l0 k N l p size one ((pk one (stepTo N l size d p x0 xl ((j : Int) - (x0 + 1)).toNat)) ++ t234) (wrap64 ((j : Int) + 1))) else none)) (fun k => by
                  rw [Option.bind_some, if_pos (by simp; omega), List.nil_append]) ?_
                refine Ev.bind hin ?_
                have b1 := hlen11 j (by omega)
                have b2 := pk_len one (stepTo N l size d p x0 xl ((j : Int) - (x0 + 1)).toNat)
                have b3 := pk_len one (cycB N l size d (p ++ [(j : Int)]))
                have b4 := cyc_len N l size (by omega) d (p ++ [(j : Int)]) (by simp) (by rw [hh0]; exact h0)
                refine Ev.congr (fun k => ?_) ihe'
                rw [if_pos (by omega), wrap64_id _ (by omega) (by omega)]
                rfl
              · rw [decide_eq_false cf]
                have hcond : (joinedB l xl (j : Int) && !p.contains (j : Int)) = false := by
                  rw [cj, Bool.true_and]
                  have : p.contains (j : Int) = true := by
                    rw [List.contains_iff_mem]
                    exact Classical.byContradiction fun h => cf h
                  rw [this]; rfl
                rw [hcond, if_neg (by decide), List.append_nil] at ihe'
                refine Ev.congr (fun k => if_neg (by decide)) ?_
                exact Ev.congr (fun k => by rw [wrap64_id _ (by omega) (by omega)]; rfl) ihe'
            · have hlt0 : edgeAt l xl (j : Int) < 0 := by
                rcases Int.lt_or_le (edgeAt l xl (j : Int)) 0 with h | h
                · exact h
                · exact absurd (hej.1 h) cj
              have hcond : (joinedB l xl (j : Int) && !p.contains (j : Int)) = false := by
                cases h : joinedB l xl (j : Int)
                · rfl
                · exact absurd h cj
              rw [hcond, if_neg (by decide), List.append_nil] at ihe'
              rw [decide_eq_true hlt0]
              exact Ev.step (fun k => by rw [remouldref05_cycles.j2, if_pos rfl, wrap64_id _ (by omega) (by omega)]; rfl) ihe'
        cases hone : one
        · subst hone
          refine Ev.step (fun k => by rw [remouldref05_cycles.l0, if_pos (by omega), if_neg (by decide)]) ?_
          exact hmore (fun h => by cases h)
        · subst hone
          refine Ev.step (fun k => by rw [remouldref05_cycles.l0, if_pos (by omega), if_pos rfl]) ?_
          by_cases hemp : stepTo N l size d p x0 xl ((j : Int) - (x0 + 1)).toNat = []
          · have := hmore (fun _ => hemp)
            have hz : (((pk true (stepTo N l size d p x0 xl ((j : Int) - (x0 + 1)).toNat)).length : Int) == 0) = true := by rw [hemp]; rfl
            rw [hz]; exact this
          · have hpre := stepTo_le N l size d p x0 xl ((j : Int) - (x0 + 1)).toNat (((N : Int) - (x0 + 1)).toNat - ((j : Int) - (x0 + 1)).toNat)
            rw [show ((j : Int) - (x0 + 1)).toNat + (((N : Int) - (x0 + 1)).toNat - ((j : Int) - (x0 + 1)).toNat) = ((N : Int) - (x0 + 1)).toNat by omega] at hpre
            have hz : (((pk true (stepTo N l size d p x0 xl ((j : Int) - (x0 + 1)).toNat)).length : Int) == 0) = false := by
              cases hh : stepTo N l size d p x0 xl ((j : Int) - (x0 + 1)).toNat with
              | nil => exact absurd hh hemp
              | cons a b => simp [pk]
            rw [hz, pk_stop hpre hemp]
            exact Ev.step (fun k => by rw [remouldref05_cycles.j1, if_neg (by decide)]) (Ev.const _)
    have h1 := hloop N 0 (by omega)
    rw [show ((0 : Nat) : Int) - (x0 + 1) = -(x0 + 1) by omega, show (-(x0 + 1)).toNat = 0 by omega] at h1
    rw [hstep]
    refine Ev.step (fun k => by rw [remouldref05_cycles.f, if_neg (by omega)]) ?_
    have hz : pk one (stepTo N l size d p x0 xl 0) = [] := by cases one <;> rfl
    rw [hz] at h1
    exact h1
end

theorem cyc_mem_len (n : Int) (l : List S46) (size : Nat) : ∀ (d : Nat) (p x : List Int), p ≠ [] → x ∈ cycB n l size d p → x.length = p.length + d := by
  intro d
  induction d with
  | zero =>
    intro p x _ hx
    rw [cycB] at hx
    split at hx
    · simp at hx
    · simp at hx; subst hx; rfl
  | succ d ih =>
    intro p x hne hx
    rw [cycB_step n l size d p _ _ hne rfl rfl, List.mem_flatMap] at hx
    obtain ⟨v, _, hv⟩ := hx
    split at hv
    · have := ih _ x (by simp) hv
      simp at this; omega
    · simp at hv
theorem cycles_mem_len {n : Int} {l : List S46} {size : Nat} {x : List Int} (h3 : 3 ≤ size) (hx : x ∈ cyclesB n l size) : x.length = size := by
  unfold cyclesB at hx
  rw [List.mem_flatMap] at hx
  obtain ⟨v, _, hv⟩ := hx
  have := cyc_mem_len n l size _ _ x (by simp) hv
  simp at this; omega
theorem cycTo_len (n : Int) (l : List S46) (size : Nat) (hn : n ≤ 12) (k : Nat) : (cycTo n l size k).length ≤ k * 11 ^ (size - 1) := by
  induction k with
  | zero => simp [cycTo]
  | succ k ih =>
    rw [cycTo_succ, List.length_append, Nat.succ_mul]
    have := cyc_len n l size hn (size - 1) [(k : Int)] (by simp) (by show (0 : Int) ≤ (k : Int); omega)
    omega
/-- All cycles of a length, or the first one. -/
theorem cycles_top (N : Nat) (hN : N ≤ 12) (l : List S46) (hl : l.length ≤ 41) (size : Nat) (hs3 : 3 ≤ size) (hs12 : size ≤ 12) (hodd : size % 2 = 1) (one : Bool) :
    Ev (fun k => remouldref05_cycles.f k N l [] size one) (pk one (cyclesB N l size)) := by
  have hpow : 11 ^ (size - 1) ≤ 11 ^ 10 := Nat.pow_le_pow_right (by omega) (by omega)
  have hloop : ∀ e j : Nat, j + e = N → Ev (fun k => remouldref05_cycles.l0 k N l [] size one (pk one (cycTo N l size j)) j) (pk one (cycTo N l size N)) := by
    intro e
    induction e with
    | zero =>
      intro j hj
      obtain rfl : j = N := by omega
      refine Ev.step (fun k => by rw [remouldref05_cycles.l0, if_neg (by omega)]) ?_
      exact Ev.step (fun k => by rw [remouldref05_cycles.j1, if_neg (by decide)]) (Ev.const _)
    | succ e ihe =>
      intro j hj
      have ihe' := ihe (j + 1) (by omega)
      have hmore : ((one = true → cycTo N l size j = []) → Ev (fun k => remouldref05_cycles.j1 k N l [] size one (pk one (cycTo N l size j)) j true) (pk one (cycTo N l size N))) := by
        intro hemp
        rw [cycTo_succ, pk_append hemp] at ihe'
        refine Ev.step (fun k => by rw [remouldref05_cycles.j1, if_pos rfl, if_neg (by simp)]) ?_
        refine Ev.step (fun k => by rw [remouldref05_cycles.j2, if_neg (by decide)]) ?_
        refine Ev.step (fun k => by rw [remouldref05_cycles.l1, if_neg (by simp), if_pos rfl, if_pos (by simp), Option.bind_some, if_pos (by simp)]) ?_
        have hin := cycles_f N hN l hl size hs3 hs12 hodd one (size - 1) [(j : Int)] (PathIs.one l _) (by simp; omega) (by show (0 : Int) ≤ (j : Int); omega)
        refine Ev.bind hin ?_
        have b1 := cycTo_len N l size (by omega) j
        have b2 := pk_len one (cycTo N l size j)
        have b3 := pk_len one (cycB N l size (size - 1) [(j : Int)])
        have b4 := cyc_len N l size (by omega) (size - 1) [(j : Int)] (by simp) (by show (0 : Int) ≤ (j : Int); omega)
        have b5 : j * 11 ^ (size - 1) ≤ 12 * 11 ^ 10 := Nat.mul_le_mul (by omega) hpow
        refine Ev.congr (fun k => ?_) ihe'
        rw [if_pos (by omega), wrap64_id _ (by omega) (by omega)]
        rfl
      cases hone : one
      · subst hone
        refine Ev.step (fun k => by rw [remouldref05_cycles.l0, if_pos (by omega), if_neg (by decide)]) ?_
        exact hmore (fun h => by cases h)
      · subst hone
        refine Ev.step (fun k => by rw [remouldref05_cycles.l0, if_pos (by omega), if_pos rfl]) ?_
        by_cases hemp : cycTo N l size j = []
        · have := hmore (fun _ => hemp)
          have hz : (((pk true (cycTo N l size j)).length : Int) == 0) = true := by rw [hemp]; rfl
          rw [hz]; exact this
        · have hpre := cycTo_le N l size j (N - j)
          rw [show j + (N - j) = N by omega] at hpre
          have hz : (((pk true (cycTo N l size j)).length : Int) == 0) = false := by
            cases hh : cycTo N l size j with
            | nil => exact absurd hh hemp
            | cons a b => simp [pk]
          rw [hz, pk_stop hpre hemp]
          exact Ev.step (fun k => by rw [remouldref05_cycles.j1, if_neg (by decide)]) (Ev.const _)
  have h1 := hloop N 0 (by omega)
  refine Ev.step (fun k => by rw [remouldref05_cycles.f, if_neg (by simp; omega)]) ?_
  have hz : pk one (cycTo N l size 0) = [] := by cases one <;> rfl
  rw [hz] at h1
  exact h1
theorem upIn_of {N : Int} {l : List S46} (h : graphOk N l = true) : UpIn N l := by
  intro e he
  obtain ⟨i, hi, rfl⟩ := List.getElem_of_mem he
  have := (edgeOk_iff ..).1 (graphOk_edge h i hi).1
  rw [rd_at l i hi] at this
  omega
theorem wraps_i64 (n : Int) (h0 : 0 ≤ n) (h1 : n < 2 ^ 63) : IntKind.i64.wrap n = n := by rw [IntKind.wrap_i64]; omega
theorem i64_and (a b : Nat) (ha : a < 2 ^ 63) (hb : b < 2 ^ 63) : Go.bits .and .i64 (a : Int) (b : Int) = ((a &&& b : Nat) : Int) :=
  (bits_nat .i64 63 (by decide) wraps_i64 a b ha hb).1
theorem mask_ends {l : List S46} {c : List Int} (h : CycIs l c) : cyR l c c.length = some (maskOf l (endsB c)) := cyR_mask h c.length (Nat.le_refl _)
theorem rd_L4_at (cs : List (List Int)) (i : Nat) (h : i < cs.length) : rd_L3 cs (i : Int) = cs[i] := by
  simp [rd_L3, List.getD_eq_getElem?_getD, h]
theorem apart_l0 (N : Int) (l : List S46) (hU : UpIn N l) (hl : l.length ≤ 41) (cs : List (List Int)) (hcs : ∀ c ∈ cs, c.length ≤ 1000) (hlen : cs.length ≤ 1000) : ∀ d i : Nat, i + d = cs.length → ∀ used : List (Int × Int), (∀ p ∈ used, hasEdge l p.1 p.2 = true) →
    Ev (fun k => remouldref05_IsApart.l0 k l cs (maskOf l used : Nat) i) (checkB N l (cs.drop i) used) := by
  intro d
  induction d with
  | zero =>
    intro i hi used hu
    obtain rfl : i = cs.length := by omega
    rw [List.drop_length, checkB]
    exact Ev.step (fun k => by rw [remouldref05_IsApart.l0, if_neg (by omega)]) (Ev.const true)
  | succ d ih =>
    intro i hi used hu
    have hlt : i < cs.length := by omega
    have hc := hcs _ (List.getElem_mem hlt)
    rw [List.drop_eq_getElem_cons hlt, checkB]
    by_cases h : CycIs l cs[i]
    · obtain ⟨s, h1, h2⟩ := cycle_yes hl hc h
      rw [mask_ends h] at h1
      obtain rfl := (Option.some.inj h1).symm
      rw [(isCycle_iff hU _).2 h, Bool.true_and]
      have m1 := mask_lt l used hu
      have m2 := mask_lt l _ (ends_in h)
      have hp : 2 ^ l.length ≤ 2 ^ 41 := Nat.pow_le_pow_right (by omega) hl
      have hstep : ∀ (k : Nat) (r : Option Bool), (if maskOf l used &&& maskOf l (endsB cs[i]) = 0 then remouldref05_IsApart.l0 k l cs ((maskOf l used + maskOf l (endsB cs[i]) : Nat) : Int) ((i + 1 : Nat) : Int) else some false) = r → remouldref05_IsApart.l0 (k + 1) l cs (maskOf l used : Nat) i = r := by
        intro k r hr
        rw [← hr, remouldref05_IsApart.l0, if_pos (by omega), if_pos (by omega), rd_L4_at cs i hlt, h2]
        show (if Go.bits .and .i64 (maskOf l used : Nat) (maskOf l (endsB cs[i]) : Nat) = 0 then remouldref05_IsApart.l0 k l cs (wrap64 ((maskOf l used : Nat) + (maskOf l (endsB cs[i]) : Nat))) (wrap64 ((i : Int) + 1)) else some false) = _
        rw [i64_and _ _ (by omega) (by omega), wrap64_id _ (by omega) (by omega), wrap64_id _ (by omega) (by omega)]
        by_cases hz : maskOf l used &&& maskOf l (endsB cs[i]) = 0
        · rw [if_pos (by rw [hz]; rfl), if_pos hz]; rfl
        · rw [if_neg (by omega), if_neg hz]
      by_cases hz : maskOf l used &&& maskOf l (endsB cs[i]) = 0
      · rw [(free_mask h used hu).2 hz, Bool.true_and]
        have hu' : ∀ p ∈ endsB cs[i] ++ used, hasEdge l p.1 p.2 = true := by
          intro p hp
          rcases List.mem_append.1 hp with h3 | h3
          · exact ends_in h p h3
          · exact hu p h3
        have := ih (i + 1) (by omega) (endsB cs[i] ++ used) hu'
        rw [mask_append, Nat.or_comm, ← add_or _ _ l.length m1 m2 hz] at this
        exact Ev.step (fun k => hstep k _ (if_pos hz)) this
      · have hf : freeB used (endsB cs[i]) = false := by
          rw [Bool.eq_false_iff]; exact fun e => hz ((free_mask h used hu).1 e)
        rw [hf, Bool.false_and]
        exact Ev.step (fun k => hstep k _ (if_neg hz)) (Ev.const false)
    · have hf : isCycleB N l cs[i] = false := by
        rw [Bool.eq_false_iff]; exact fun e => h ((isCycle_iff hU _).1 e)
      rw [hf, Bool.false_and, Bool.false_and]
      refine Ev.step (fun k => ?_) (Ev.const false)
      rw [remouldref05_IsApart.l0, if_pos (by omega), if_pos (by omega), rd_L4_at cs i hlt, cycle_no hl hc h]
      rfl
theorem apart_f (N : Int) (l : List S46) (hU : UpIn N l) (hl : l.length ≤ 41) (cs : List (List Int)) (hcs : ∀ c ∈ cs, c.length ≤ 1000) (hlen : cs.length ≤ 1000) : Ev (fun k => remouldref05_IsApart.f k l cs) (checkB N l cs []) :=
  apart_l0 N l hU hl cs hcs hlen cs.length 0 (by omega) [] (by simp)
def unAt (N t : Nat) (c : List Int) (i : Nat) : Bool := hasB N t (rd c (i : Int)) == hasB N t (rd c (((i + 1) % c.length : Nat) : Int))
theorem uncut_exists (N t : Nat) {l : List S46} {c : List Int} (h : CycIs l c) : (List.range c.length).any (unAt N t c) = true := by
  obtain ⟨h3, hodd, _, _⟩ := h
  obtain ⟨i, hi, he⟩ := cycle_uncut c.length hodd (fun i => hasB N t (rd c ((i % c.length : Nat) : Int))) (by simp)
  rw [List.any_eq_true]
  refine ⟨i, by simpa using hi, ?_⟩
  unfold unAt
  simp only [Nat.mod_eq_of_lt hi] at he
  rw [he]; simp
theorem nodup_sub {α : Type} [BEq α] [LawfulBEq α] : ∀ (ps qs : List α), ps.Nodup → (∀ p ∈ ps, p ∈ qs) → ps.length ≤ qs.length
  | [], _, _, _ => Nat.zero_le _
  | p :: ps, qs, h, hs => by
    rw [List.nodup_cons] at h
    have hm := hs p List.mem_cons_self
    have := nodup_sub ps (qs.erase p) h.2 (fun q hq => by
      refine (List.mem_erase_of_ne ?_).2 (hs q (List.mem_cons_of_mem _ hq))
      rintro rfl
      exact h.1 hq)
    have h2 := List.length_erase_of_mem hm
    have h3 := List.length_pos_of_mem hm
    rw [List.length_cons]
    omega
theorem disjB_iff (c : List Int) (us : List (Int × Int)) : disjB c us = true ↔ ∀ p ∈ endsB c, p ∉ us := by
  unfold disjB
  rw [Bool.not_eq_true', List.any_eq_false]
  constructor
  · intro h p hp hm
    exact h p hp (by simpa using hm)
  · intro h p hp hm
    exact h p hp (by simpa using hm)
theorem allB_cyc {N : Nat} {l : List S46} {c : List Int} (h : c ∈ allB N l) : CycIs l c ∧ 3 ≤ c.length ∧ c.length ≤ N ∧ c.length % 2 = 1 := by
  unfold allB oddSizes at h
  rw [List.mem_flatMap] at h
  obtain ⟨k, hk, hc⟩ := h
  rw [List.mem_map] at hk
  obtain ⟨i, hi, rfl⟩ := hk
  have hi' : i < (N - 1) / 2 := by simpa using hi
  have hl := cycles_mem_len (by omega) hc
  exact ⟨cycles_sound (by omega) (by omega) hc, by omega, by omega, by omega⟩
theorem ends_in2 {l : List S46} {c : List Int} (h : CycIs l c) : ∀ p ∈ endsB c, hasEdge l p.1 p.2 = true := by
  intro p hp
  rw [endsB_eq, List.mem_map] at hp
  obtain ⟨i, hi, rfl⟩ := hp
  have h1 := (h.2.2.2 i (by simpa using hi)).1
  rw [rd_getD, rd_getD] at h1
  exact h1
/-- Each cycle that is laid has an uncut edge of its own. -/
theorem laid_uncut (N t : Nat) (l : List S46) : ∀ (cs : List (List Int)) (us : List (Int × Int)), Laid us cs → (∀ c ∈ cs, CycIs l c) → ∃ ps : List (Int × Int), ps.length = cs.length ∧ ps.Nodup ∧ ∀ p ∈ ps, hasEdge l p.1 p.2 = true ∧ hasB N t p.1 = hasB N t p.2 ∧ p ∉ us
  | [], _, _, _ => ⟨[], rfl, List.nodup_nil, by simp⟩
  | c :: cs, us, ⟨h1, h2⟩, hc => by
    obtain ⟨ps, e1, e2, e3⟩ := laid_uncut N t l cs _ h2 (fun x hx => hc x (List.mem_cons_of_mem _ hx))
    have hcy := hc c List.mem_cons_self
    have hu := uncut_exists N t hcy
    rw [List.any_eq_true] at hu
    obtain ⟨i, hi, hb⟩ := hu
    have hm : endAt c i ∈ endsB c := by
      rw [endsB_eq]
      exact List.mem_map.2 ⟨i, hi, rfl⟩
    refine ⟨endAt c i :: ps, by simp [e1], List.nodup_cons.2 ⟨fun hp => ?_, e2⟩, fun p hp => ?_⟩
    · exact (e3 _ hp).2.2 (List.mem_append.2 (.inr hm))
    · rcases List.mem_cons.1 hp with rfl | hp
      · refine ⟨ends_in2 hcy _ hm, ?_, (disjB_iff _ _).1 h1 _ hm⟩
        unfold unAt at hb
        rw [rd_getD, rd_getD] at hb
        have hb' := eq_of_beq hb
        unfold endAt
        simp only
        split
        · exact hb'
        · exact hb'.symm
      · obtain ⟨a, b, d⟩ := e3 p hp
        exact ⟨a, b, fun hm2 => d (List.mem_append.2 (.inl hm2))⟩
theorem laid_bound (N t : Nat) (l : List S46) (cs : List (List Int)) (h1 : Laid [] cs) (h2 : ∀ c ∈ cs, CycIs l c) : cs.length ≤ l.countP fun e => !cutB N t e := by
  obtain ⟨ps, e1, e2, e3⟩ := laid_uncut N t l cs [] h1 h2
  rw [← e1, List.countP_eq_length_filter]
  have := nodup_sub ps ((l.filter fun e => !cutB N t e).map fun e => (e.f0, e.f1)) e2 (fun p hp => by
    obtain ⟨a, b, _⟩ := e3 p hp
    obtain ⟨e, he, h3, h4⟩ := (hasEdge_iff l p.1 p.2).1 a
    refine List.mem_map.2 ⟨e, List.mem_filter.2 ⟨he, ?_⟩, ?_⟩
    · unfold cutB
      rw [h3, h4, b]; simp
    · rw [h3, h4])
  rwa [List.length_map] at this
/-- No family that is laid one more from the rest has more. -/
theorem layB_max : ∀ (rest now best sel : List (List Int)), sel.Sublist rest → Laid (now.flatMap endsB) sel → now.length ≤ best.length → now.length + sel.length ≤ (layB rest now best).length
  | [], now, best, sel, h, _, hb => by
    rw [List.eq_nil_of_sublist_nil h]
    exact hb
  | c :: rest, now, best, sel, h, hL, hb => by
    rw [layB]
    have hnb : best.length ≤ (if disjB c (now.flatMap endsB) then layB rest (now ++ [c]) (bump (now ++ [c]) best) else best).length := by
      split
      · exact Nat.le_trans (bump_ge _ _).1 (layB_ge rest _ _)
      · exact Nat.le_refl _
    cases h with
    | cons _ h => exact layB_max rest now _ sel h hL (by omega)
    | cons_cons _ h =>
      rename_i sel
      obtain ⟨h1, h2⟩ := hL
      rw [if_pos h1]
      have h3 := layB_max rest (now ++ [c]) (bump (now ++ [c]) best) sel h (by simpa [List.flatMap_append] using h2) (bump_ge _ _).2
      have h4 := layB_ge rest now (layB rest (now ++ [c]) (bump (now ++ [c]) best))
      simp only [List.length_append, List.length_singleton, List.length_cons] at h3 ⊢
      omega
theorem layB_sub (full : List (List Int)) : ∀ (rest d now best : List (List Int)), full = d ++ rest → now.Sublist d → best.Sublist full → (layB rest now best).Sublist full
  | [], _, _, _, _, _, h => h
  | c :: rest, d, now, best, hf, hn, hb => by
    rw [layB]
    have hf2 : full = (d ++ [c]) ++ rest := by rw [hf]; simp
    have hn2 : (now ++ [c]).Sublist (d ++ [c]) := hn.append (List.Sublist.refl _)
    refine layB_sub full rest (d ++ [c]) now _ hf2 (hn.trans (List.sublist_append_left _ _)) ?_
    split
    · refine layB_sub full rest (d ++ [c]) (now ++ [c]) _ hf2 hn2 ?_
      unfold bump
      split
      · rw [hf2]
        exact hn2.trans (List.sublist_append_left _ _)
      · exact hb
    · exact hb
theorem apartB_sub (n : Int) (l : List S46) : (apartB n l).Sublist (sortB (allB n l)) := layB_sub _ _ [] [] [] rfl (List.Sublist.refl _) (List.nil_sublist _)
/-- Cycles with no edge in common. -/
def Disj (c d : List Int) : Prop := ∀ p ∈ endsB c, p ∉ endsB d
theorem Disj.symm {c d : List Int} (h : Disj c d) : Disj d c := fun p hp hm => h p hm hp
theorem laid_iff : ∀ (cs : List (List Int)) (us : List (Int × Int)), Laid us cs ↔ cs.Pairwise Disj ∧ ∀ c ∈ cs, ∀ p ∈ endsB c, p ∉ us
  | [], us => by simp [Laid]
  | c :: cs, us => by
    rw [Laid, laid_iff cs, disjB_iff, List.pairwise_cons]
    constructor
    · rintro ⟨h1, h2, h3⟩
      refine ⟨⟨fun d hd p hp hm => h3 d hd p hm (List.mem_append.2 (.inr hp)), h2⟩, fun d hd p hp hu => ?_⟩
      rcases List.mem_cons.1 hd with rfl | hd
      · exact h1 p hp hu
      · exact h3 d hd p hp (List.mem_append.2 (.inl hu))
    · rintro ⟨⟨h1, h2⟩, h3⟩
      refine ⟨h3 c List.mem_cons_self, h2, fun d hd p hp hu => ?_⟩
      rcases List.mem_append.1 hu with hu | hu
      · exact h3 d (List.mem_cons_of_mem _ hd) p hp hu
      · exact h1 d hd p hu hp
/-- Odd cycles that have no edge in common, whichever they are: not more than those chosen. -/
theorem apartB_most (n : Int) (l : List S46) (cs : List (List Int)) (hc : ∀ c ∈ cs, c ∈ allB n l) (hn : cs.Nodup) (hd : cs.Pairwise Disj) (ha : (allB n l).Nodup) : cs.length ≤ (apartB n l).length := by
  have hs : (sortB (allB n l)).Perm (allB n l) := List.mergeSort_perm _ _
  have hsn : (sortB (allB n l)).Nodup := hs.nodup_iff.2 ha
  have hp : ((sortB (allB n l)).filter fun c => cs.contains c).Perm cs := by
    refine (List.perm_ext_iff_of_nodup (hsn.filter _) hn).2 (fun c => ?_)
    rw [List.mem_filter]
    constructor
    · rintro ⟨_, h⟩; simpa using h
    · intro h; exact ⟨hs.mem_iff.2 (hc c h), by simpa using h⟩
  have h := layB_max (sortB (allB n l)) [] [] _ (List.filter_sublist) ((laid_iff _ _).2 ⟨(hp.pairwise_iff (fun h => h.symm)).2 hd, fun c _ p _ => by simp⟩) (Nat.le_refl _)
  rw [hp.length_eq] at h
  unfold apartB; simpa using h
theorem allB_nodup (n : Int) (l : List S46) (hn : ∀ k, (cyclesB n l k).Nodup) (hl : ∀ k c, 3 ≤ k → c ∈ cyclesB n l k → c.length = k) : (allB n l).Nodup := by
  unfold allB
  rw [List.Nodup, List.pairwise_flatMap]
  refine ⟨fun k _ => hn k, ?_⟩
  unfold oddSizes
  rw [List.pairwise_map]
  refine List.Pairwise.imp ?_ (List.pairwise_lt_range)
  intro i j hij c hc d hd e
  have h1 := hl _ c (by omega) hc
  have h2 := hl _ d (by omega) hd
  rw [e] at h1
  omega
end Go.Proofs.Ytkefmlhkejoknab.L
