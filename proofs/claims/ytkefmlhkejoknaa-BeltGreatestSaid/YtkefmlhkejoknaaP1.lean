import Derived.Test.YtkefmlhkejoknaaXBest
import Derived.Test.YtkefmlhkejoknaaL2
import Derived.Test.YtkefmlhkejoknaaL4

/- Plain law: what the reference's printed functions come to when the figure that bounds their steps is great enough. -/
namespace Go.Proofs.Ytkefmlhkejoknaa.L
set_option linter.unusedVariables false
set_option linter.unusedSimpArgs false
open Go.RowKit Go.Proofs.YtkefmlhkejoknaaW.PrintWords Go.Proofs.YtkefmlhkejoknaaW.PrintLast Go.Proofs.YtkefmlhkejoknaaW.PrintMore

/-- From some figure on, it is r. -/
def Ev {α : Type} (g : Nat → Option α) (r : α) : Prop := ∃ K, ∀ k, K ≤ k → g k = some r
theorem Ev.const {α : Type} (r : α) : Ev (fun _ => some r) r := ⟨0, fun _ _ => rfl⟩
theorem Ev.step {α : Type} {g h : Nat → Option α} {r : α} (he : ∀ k, g (k + 1) = h k) (hh : Ev h r) : Ev g r := by
  obtain ⟨K, hK⟩ := hh
  refine ⟨K + 1, fun k hk => ?_⟩
  obtain ⟨j, rfl⟩ : ∃ j, k = j + 1 := ⟨k - 1, by omega⟩
  rw [he]; exact hK j (by omega)
theorem Ev.bind {α β : Type} {g : Nat → Option α} {h : Nat → α → Option β} {a : α} {b : β} (hg : Ev g a) (hh : Ev (fun k => h k a) b) : Ev (fun k => (g k).bind (h k)) b := by
  obtain ⟨K, hK⟩ := hg
  obtain ⟨M, hM⟩ := hh
  refine ⟨K + M, fun k hk => ?_⟩
  show (g k).bind (h k) = some b
  rw [hK k (by omega)]
  exact hM k (by omega)
theorem Ev.congr {α : Type} {g h : Nat → Option α} {r : α} (he : ∀ k, g k = h k) (hh : Ev h r) : Ev g r := by
  obtain ⟨K, hK⟩ := hh
  exact ⟨K, fun k hk => (he k).trans (hK k hk)⟩
theorem Ev.get {α : Type} {g : Nat → Option α} {r : α} (h : Ev g r) : ∃ k, g k = some r := by
  obtain ⟨K, hK⟩ := h
  exact ⟨K, hK K (Nat.le_refl _)⟩
theorem wrap64_id (x : Int) (h1 : -9223372036854775808 ≤ x) (h2 : x ≤ 9223372036854775807) : wrap64 x = x := by
  unfold wrap64; omega

/-- A list is cut as the law cuts it. -/
theorem edges_f (l : List S49) : remouldlaw05_edges.f l = some (l.take 41) := by
  unfold remouldlaw05_edges.f mn
  by_cases h : 41 < (l.length : Int)
  · rw [if_pos h]
    simp only [Int.reduceLE, if_true, Option.bind_some, List.nil_append, List.length_nil]
    rw [if_pos (by omega), if_pos (by simp; omega)]
    rfl
  · rw [if_neg h, if_pos (by omega), if_pos (by omega)]
    simp only [Option.bind_some, List.nil_append, List.length_nil]
    rw [if_pos (by simp; omega)]
    have e : (l.length : Int).toNat = l.length := by omega
    rw [e, List.take_of_length_le (Nat.le_refl _), List.take_of_length_le (by omega)]

/-- The edge at a place. -/
theorem rd_at (l : List S49) (i : Nat) (h : i < l.length) : rd_T49 l (i : Int) = l[i] := by simp [rd_T49, List.getElem?_eq_getElem h]

/-- The inner loop of Graph: no edge before i has the same ends. -/
theorem graph_l1 (n : Int) (l : List S49) (i : Nat) (hi : i < l.length) (hl : l.length ≤ 41) (r : Bool) (hr : hasEdge (l.take i) (rd_T49 l (i : Int)).f0 (rd_T49 l (i : Int)).f1 = false → Ev (fun k => remouldref05_Graph.l0 k n l ((i : Int) + 1)) r) (hf : hasEdge (l.take i) (rd_T49 l (i : Int)).f0 (rd_T49 l (i : Int)).f1 = true → r = false) :
    ∀ d k' : Nat, k' + d = i → hasEdge (l.take k') (rd_T49 l (i : Int)).f0 (rd_T49 l (i : Int)).f1 = false → Ev (fun k => remouldref05_Graph.l1 k n l (i : Int) (k' : Int)) r := by
  intro d
  induction d with
  | zero =>
    intro k' hk h0
    obtain rfl : k' = i := by omega
    refine Ev.step (fun k => by rw [remouldref05_Graph.l1, if_neg (by omega), wrap64_id _ (by omega) (by omega)]) (hr h0)
  | succ d ih =>
    intro k' hk h0
    have hsnoc : hasEdge (l.take (k' + 1)) (rd_T49 l (i : Int)).f0 (rd_T49 l (i : Int)).f1 = (((rd_T49 l (k' : Int)).f0 == (rd_T49 l (i : Int)).f0) && ((rd_T49 l (k' : Int)).f1 == (rd_T49 l (i : Int)).f1)) := by
      rw [List.take_succ_eq_append_getElem (by omega : k' < l.length), ← rd_at l k' (by omega)]
      simp only [hasEdge, List.any_append, List.any_cons, List.any_nil, Bool.or_false]
      rw [show (l.take k').any (fun e => e.f0 == (rd_T49 l (i : Int)).f0 && e.f1 == (rd_T49 l (i : Int)).f1) = false from h0, Bool.false_or]
    have hmore : hasEdge (l.take (k' + 1)) (rd_T49 l (i : Int)).f0 (rd_T49 l (i : Int)).f1 = true → r = false := fun h => hf (by
      unfold hasEdge at h ⊢
      rw [List.any_eq_true] at h ⊢
      obtain ⟨x, hx, hp⟩ := h
      exact ⟨x, (List.take_sublist_take_left (by omega : k' + 1 ≤ i)).subset hx, hp⟩)
    have hbody : ∀ k, remouldref05_Graph.l1 (k + 1) n l (i : Int) (k' : Int) = (if (rd_T49 l (k' : Int)).f0 = (rd_T49 l (i : Int)).f0 then (if (rd_T49 l (k' : Int)).f1 = (rd_T49 l (i : Int)).f1 then some false else remouldref05_Graph.l1 k n l (i : Int) ((k' + 1 : Nat) : Int)) else remouldref05_Graph.l1 k n l (i : Int) ((k' + 1 : Nat) : Int)) := by
      intro k
      rw [remouldref05_Graph.l1, if_pos (by omega), if_pos (by omega), if_pos (by omega), if_pos (by omega), if_pos (by omega), wrap64_id _ (by omega) (by omega)]
      rfl
    by_cases e0 : (rd_T49 l (k' : Int)).f0 = (rd_T49 l (i : Int)).f0
    · by_cases e1 : (rd_T49 l (k' : Int)).f1 = (rd_T49 l (i : Int)).f1
      · have : r = false := hmore (by rw [hsnoc, e0, e1]; simp)
        subst this
        exact Ev.step (fun k => by rw [hbody, if_pos e0, if_pos e1]) (Ev.const false)
      · exact Ev.step (fun k => by rw [hbody, if_pos e0, if_neg e1]) (ih (k' + 1) (by omega) (by rw [hsnoc]; simp [e1]))
    · exact Ev.step (fun k => by rw [hbody, if_neg e0]) (ih (k' + 1) (by omega) (by rw [hsnoc]; simp [e0]))

theorem edgesOk_bad (n : Int) (l : List S49) (i : Nat) (hi : i < l.length) (h : edgesOk n l (i + 1) = false) : edgesOk n l l.length = false := by
  cases hh : edgesOk n l l.length
  · rfl
  · have := edgesOk_le n l (i + 1) (l.length - (i + 1)) (by rw [show i + 1 + (l.length - (i + 1)) = l.length by omega]; exact hh)
    rw [h] at this; cases this

theorem graph_l0 (n : Int) (l : List S49) (hl : l.length ≤ 41) : ∀ d i : Nat, i + d = l.length → edgesOk n l i = true → Ev (fun k => remouldref05_Graph.l0 k n l (i : Int)) (edgesOk n l l.length) := by
  intro d
  induction d with
  | zero =>
    intro i hi h
    obtain rfl : i = l.length := by omega
    rw [h]
    exact Ev.step (fun k => by rw [remouldref05_Graph.l0, if_neg (by omega)]) (Ev.const true)
  | succ d ih =>
    intro i hi h
    have hlt : i < l.length := by omega
    have hs := edgesOk_succ n l i hlt
    rw [h, Bool.true_and] at hs
    have htrue : edgeOk n (rd_T49 l (i : Int)) = false → Ev (fun k => remouldref05_Graph.j2 k n l (i : Int) true) (edgesOk n l l.length) := fun hb => by
      rw [edgesOk_bad n l i hlt (by rw [hs, hb]; rfl)]
      exact Ev.step (fun k => by rw [remouldref05_Graph.j2, if_pos rfl]) (Ev.const false)
    have hfalse : edgeOk n (rd_T49 l (i : Int)) = true → Ev (fun k => remouldref05_Graph.j2 k n l (i : Int) false) (edgesOk n l l.length) := fun hb => by
      refine Ev.step (fun k => by rw [remouldref05_Graph.j2, if_neg (by decide)]) ?_
      refine graph_l1 n l i hlt hl _ (fun h0 => ?_) (fun h0 => ?_) i 0 (by omega) (by simp [hasEdge])
      · exact ih (i + 1) (by omega) (by rw [hs, hb, h0]; rfl)
      · exact edgesOk_bad n l i hlt (by rw [hs, hb, h0]; rfl)
    have hok := edgeOk_iff n (rd_T49 l (i : Int))
    obtain ⟨e, he⟩ : ∃ e, rd_T49 l (i : Int) = e := ⟨_, rfl⟩
    rw [he] at hs htrue hfalse hok
    refine Ev.step (h := fun k => (if e.f0 < 0 then (remouldref05_Graph.j2 k n l i true) else (if e.f0 ≥ e.f1 then (remouldref05_Graph.j2 k n l i true) else (if e.f1 ≥ n then (remouldref05_Graph.j2 k n l i true) else (if e.f2 < (-50) then (remouldref05_Graph.j2 k n l i true) else (remouldref05_Graph.j2 k n l i (decide (e.f2 > 50)))))))) (fun k => ?_) ?_
    · show remouldref05_Graph.l0 (k + 1) n l i = _
      rw [remouldref05_Graph.l0, if_pos (by omega), if_pos (by omega), he]
    · by_cases c1 : e.f0 < 0
      · exact Ev.congr (fun k => if_pos c1) (htrue (Bool.eq_false_iff.2 (fun hh => by have := hok.1 hh; omega)))
      · refine Ev.congr (fun k => if_neg c1) ?_
        by_cases c2 : e.f0 ≥ e.f1
        · exact Ev.congr (fun k => if_pos c2) (htrue (Bool.eq_false_iff.2 (fun hh => by have := hok.1 hh; omega)))
        · refine Ev.congr (fun k => if_neg c2) ?_
          by_cases c3 : e.f1 ≥ n
          · exact Ev.congr (fun k => if_pos c3) (htrue (Bool.eq_false_iff.2 (fun hh => by have := hok.1 hh; omega)))
          · refine Ev.congr (fun k => if_neg c3) ?_
            by_cases c4 : e.f2 < -50
            · exact Ev.congr (fun k => if_pos c4) (htrue (Bool.eq_false_iff.2 (fun hh => by have := hok.1 hh; omega)))
            · refine Ev.congr (fun k => if_neg c4) ?_
              by_cases c5 : e.f2 > 50
              · rw [decide_eq_true c5]
                exact htrue (Bool.eq_false_iff.2 (fun hh => by have := hok.1 hh; omega))
              · rw [decide_eq_false c5]
                exact hfalse (hok.2 (by omega))

theorem graph_f (n : Int) (l : List S49) (hl : l.length ≤ 41) : Ev (fun k => remouldref05_Graph.f k n l) (graphOk n l) := by
  have hbad : graphOk n l = false → Ev (fun k => remouldref05_Graph.j0 k n l true) (graphOk n l) := fun h => by
    rw [h]; exact Ev.step (fun k => by rw [remouldref05_Graph.j0, if_pos rfl]) (Ev.const false)
  by_cases c1 : n < 1
  · exact Ev.congr (fun k => by rw [remouldref05_Graph.f, if_pos c1]) (hbad (by simp [graphOk, inB]; omega))
  · by_cases c2 : n > 12
    · exact Ev.congr (fun k => by rw [remouldref05_Graph.f, if_neg c1, if_pos c2]) (hbad (by simp [graphOk, inB]; omega))
    · by_cases c3 : (l.length : Int) > 40
      · exact Ev.congr (fun k => by rw [remouldref05_Graph.f, if_neg c1, if_neg c2, decide_eq_true c3]) (hbad (by simp [graphOk, inB]; omega))
      · refine Ev.congr (fun k => by rw [remouldref05_Graph.f, if_neg c1, if_neg c2, decide_eq_false c3]) ?_
        refine Ev.step (fun k => by rw [remouldref05_Graph.j0, if_neg (by decide)]) ?_
        have e : graphOk n l = edgesOk n l l.length := by rw [graphOk, (inB_iff n 1 12).2 ⟨by omega, by omega⟩, decide_eq_true (show l.length ≤ 40 by omega)]; rfl
        rw [e]
        exact graph_l0 n l hl l.length 0 (by omega) rfl

end Go.Proofs.Ytkefmlhkejoknaa.L

/- Plain law: all sides in order, and their values, as the reference tells them. -/
namespace Go.Proofs.Ytkefmlhkejoknaa.L
set_option linter.unusedVariables false
set_option linter.unusedSimpArgs false
open Go.RowKit Go.Proofs.YtkefmlhkejoknaaW.PrintWords Go.Proofs.YtkefmlhkejoknaaW.PrintLast Go.Proofs.YtkefmlhkejoknaaW.PrintMore

/-- All strings of 0 and 1 of a length, in order. -/
def strs : Nat → List ByteArray
  | 0 => [⟨#[]⟩]
  | i + 1 => (strs i).flatMap fun s => [s ++ (⟨#[48]⟩ : ByteArray), s ++ (⟨#[49]⟩ : ByteArray)]
theorem range_two (m : Nat) : List.range (2 * m) = (List.range m).flatMap fun s => [2 * s, 2 * s + 1] := by
  induction m with
  | zero => rfl
  | succ m ih =>
    rw [show 2 * (m + 1) = 2 * m + 1 + 1 by omega, List.range_succ, List.range_succ, ih, List.range_succ, List.flatMap_append]
    simp
theorem two_length (f g : ByteArray → ByteArray) (xs : List ByteArray) : (xs.flatMap fun s => [f s, g s]).length = 2 * xs.length := by
  induction xs with
  | nil => rfl
  | cons a l ih => rw [List.flatMap_cons, List.length_append, ih]; simp; omega
theorem text_bit (N s : Nat) (b : Nat) (hb : b < 2) : textB ((N + 1 : Nat) : Int) (2 * s + b) = textB (N : Int) s ++ (⟨#[if b = 1 then 49 else 48]⟩ : ByteArray) := by
  have e : charsB ((N + 1 : Nat) : Int) (2 * s + b) = charsB (N : Int) s ++ [if b = 1 then 49 else 48] := by
    unfold charsB
    rw [Int.toNat_natCast, Int.toNat_natCast, List.range_succ, List.map_append]
    congr 1
    · apply List.map_congr_left
      intro v hv
      have hv' : v < N := by simpa using hv
      have h1 : (((N + 1 : Nat) : Int) - 1 - (v : Int)).toNat = ((N : Int) - 1 - (v : Int)).toNat + 1 := by omega
      unfold hasB
      rw [h1, Nat.testBit_succ, show (2 * s + b) / 2 = s by omega]
    · have h1 : (((N + 1 : Nat) : Int) - 1 - (N : Int)).toNat = 0 := by omega
      simp only [List.map_cons, List.map_nil, hasB, h1, Nat.testBit_zero]
      have : b = 0 ∨ b = 1 := by omega
      rcases this with h | h <;> subst h <;> simp <;> omega
  unfold textB
  rw [e]
  apply ByteArray.ext
  simp
theorem strs_eq (N : Nat) : strs N = (List.range (2 ^ N)).map (textB (N : Int)) := by
  induction N with
  | zero => rfl
  | succ N ih =>
    rw [strs, ih, Nat.pow_succ, Nat.mul_comm, range_two, List.map_flatMap, List.flatMap_map]
    congr 1
    funext s
    simp only [List.map_cons, List.map_nil]
    have h0 : textB ((N + 1 : Nat) : Int) (2 * s) = textB (N : Int) s ++ (⟨#[48]⟩ : ByteArray) := text_bit N s 0 (by omega)
    have h1 : textB ((N + 1 : Nat) : Int) (2 * s + 1) = textB (N : Int) s ++ (⟨#[49]⟩ : ByteArray) := text_bit N s 1 (by omega)
    rw [h0, h1]
theorem strs_length (N : Nat) : (strs N).length = 2 ^ N := by rw [strs_eq]; simp
theorem text_size (N s : Nat) : (textB (N : Int) s).size = N := by simp [textB, charsB, ByteArray.size]
theorem strs_at (N s : Nat) (h : s < 2 ^ N) : rdOf ByteArray.empty (strs N) (s : Int) = textB (N : Int) s := by
  simp [rdOf, strs_eq, h]
theorem strs_size (N : Nat) (i : Nat) (h : i < 2 ^ N) : (rdOf ByteArray.empty (strs N) (i : Int)).size = N := by rw [strs_at N i h, text_size]

/-- The inner loop of All. -/
theorem all_l1 (n : Int) (i : Nat) (hi : i < 12) (r : List ByteArray) (hr : Ev (fun k => remouldref05_All.l0 k n (strs (i + 1)) ((i : Int) + 1)) r) :
    ∀ d j : Nat, j + d = 2 ^ i → Ev (fun k => remouldref05_All.l1 k n (strs i) (i : Int) (((strs i).take j).flatMap fun s => [s ++ (⟨#[48]⟩ : ByteArray), s ++ (⟨#[49]⟩ : ByteArray)]) (j : Int)) r := by
  have hp : 2 ^ i ≤ 2 ^ 11 := Nat.pow_le_pow_right (by omega) (by omega)
  have hlen := strs_length i
  intro d
  induction d with
  | zero =>
    intro j hj
    obtain rfl : j = 2 ^ i := by omega
    rw [List.take_of_length_le (by omega)]
    exact Ev.step (fun k => by rw [remouldref05_All.l1, if_neg (by omega), wrap64_id _ (by omega) (by omega)]; rfl) hr
  | succ d ih =>
    intro j hj
    have hlt : j < 2 ^ i := by omega
    have hsz := strs_size i j hlt
    have hl2 : (((strs i).take j).flatMap fun s => [s ++ (⟨#[48]⟩ : ByteArray), s ++ (⟨#[49]⟩ : ByteArray)]).length = 2 * j := by
      rw [two_length, List.length_take]; omega
    have e : (((strs i).take (j + 1)).flatMap fun s => [s ++ (⟨#[48]⟩ : ByteArray), s ++ (⟨#[49]⟩ : ByteArray)]) = (((strs i).take j).flatMap fun s => [s ++ (⟨#[48]⟩ : ByteArray), s ++ (⟨#[49]⟩ : ByteArray)]) ++ [rdOf ByteArray.empty (strs i) (j : Int) ++ (⟨#[48]⟩ : ByteArray), rdOf ByteArray.empty (strs i) (j : Int) ++ (⟨#[49]⟩ : ByteArray)] := by
      rw [List.take_succ_eq_append_getElem (by omega), List.flatMap_append]
      simp [rdOf, List.getElem?_eq_getElem (by omega : j < (strs i).length)]
    refine Ev.step (h := fun k => remouldref05_All.l1 k n (strs i) (i : Int) (((strs i).take (j + 1)).flatMap fun s => [s ++ (⟨#[48]⟩ : ByteArray), s ++ (⟨#[49]⟩ : ByteArray)]) ((j + 1 : Nat) : Int)) (fun k => ?_) (ih (j + 1) (by omega))
    rw [remouldref05_All.l1, if_pos (by omega), if_pos (by omega), if_pos (by omega)]
    simp only [Option.bind_some]
    rw [if_pos (by simp [hl2]; omega), wrap64_id _ (by omega) (by omega), e]
    rfl
theorem all_l0 (N : Nat) (hN : N ≤ 12) : ∀ d i : Nat, i + d = N → Ev (fun k => remouldref05_All.l0 k (N : Int) (strs i) (i : Int)) (strs N) := by
  intro d
  induction d with
  | zero =>
    intro i hi
    obtain rfl : i = N := by omega
    exact Ev.step (fun k => by rw [remouldref05_All.l0, if_neg (by omega)]) (Ev.const _)
  | succ d ih =>
    intro i hi
    refine Ev.step (fun k => by rw [remouldref05_All.l0, if_pos (by omega)]) ?_
    have := all_l1 N i (by omega) (strs N) (ih (i + 1) (by omega)) (2 ^ i) 0 (by omega)
    exact this
theorem all_f (n : Int) (h0 : 1 ≤ n) (hn : n ≤ 12) : Ev (fun k => remouldref05_All.f k n) (strs n.toNat) := by
  obtain ⟨N, rfl⟩ := Int.eq_ofNat_of_zero_le (show 0 ≤ n by omega)
  exact all_l0 N (by omega) N 0 (by omega)

theorem bt_text (N s : Nat) (v : Int) (h0 : 0 ≤ v) (h1 : v < N) : bt (textB (N : Int) s) v = if hasB (N : Int) s v then 49 else 48 := by
  obtain ⟨v, rfl⟩ := Int.eq_ofNat_of_zero_le h0
  have hv : v < N := by omega
  unfold bt
  rw [dif_pos (by rw [text_size]; omega)]
  have e : (textB (N : Int) s)[(v : Int).toNat]'(by rw [text_size]; omega) = (if hasB (N : Int) s (v : Int) then (49 : UInt8) else 48) := by
    simp [textB, charsB, ByteArray.getElem_eq_getElem_data]
  rw [e]
  split <;> rfl
theorem bt_cut (N s : Nat) (a b : Int) (ha : 0 ≤ a ∧ a < N) (hb : 0 ≤ b ∧ b < N) : bt (textB (N : Int) s) a = bt (textB (N : Int) s) b ↔ (hasB (N : Int) s a != hasB (N : Int) s b) = false := by
  rw [bt_text N s a ha.1 ha.2, bt_text N s b hb.1 hb.2]
  cases hasB (N : Int) s a <;> cases hasB (N : Int) s b <;> simp

theorem value_l0 (N s : Nat) (l : List S49) (hl : l.length ≤ 41) (hE : EdgesIn N l) : ∀ d i : Nat, i + d = l.length → Ev (fun k => remouldref05_Value.l0 k l (textB (N : Int) s) (valB N s (l.take i)) (i : Int)) (valB N s l) := by
  intro d
  induction d with
  | zero =>
    intro i hi
    obtain rfl : i = l.length := by omega
    rw [List.take_of_length_le (Nat.le_refl _)]
    exact Ev.step (fun k => by rw [remouldref05_Value.l0, if_neg (by omega)]) (Ev.const _)
  | succ d ih =>
    intro i hi
    have hlt : i < l.length := by omega
    have hb := hE i hlt
    have hbd := valB_bound N s l hE i (by omega)
    have ht := valB_take N s l i hlt
    have hcut := bt_cut N s (rd_T49 l (i : Int)).f0 (rd_T49 l (i : Int)).f1 ⟨hb.1, hb.2.1⟩ ⟨hb.2.2.1, hb.2.2.2.1⟩
    refine Ev.step (h := fun k => remouldref05_Value.l0 k l (textB (N : Int) s) (valB N s (l.take (i + 1))) ((i + 1 : Nat) : Int)) (fun k => ?_) (ih (i + 1) (by omega))
    rw [remouldref05_Value.l0, text_size, if_pos (by omega), if_pos (by omega), if_pos hb.1, if_pos hb.2.1, if_pos hb.2.2.1, if_pos hb.2.2.2.1, wrap64_id ((i : Int) + 1) (by omega) (by omega), ht]
    by_cases hc : cutB N s (rd_T49 l (i : Int)) = true
    · rw [if_neg (fun h => by have := hcut.1 h; rw [cutB] at hc; rw [hc] at this; cases this), if_pos hc, wrap64_id _ (by omega) (by omega)]
      rfl
    · have hc' : cutB N s (rd_T49 l (i : Int)) = false := by simpa using hc
      rw [if_pos (hcut.2 hc'), if_neg hc, Int.add_zero]
      rfl
theorem value_f (N s : Nat) (l : List S49) (hl : l.length ≤ 41) (hE : EdgesIn N l) : Ev (fun k => remouldref05_Value.f k l (textB (N : Int) s)) (valB N s l) := by
  have := value_l0 N s l hl hE l.length 0 (by omega)
  exact this

end Go.Proofs.Ytkefmlhkejoknaa.L
