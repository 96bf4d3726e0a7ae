/- Plain law: what BeltOwn leans on (lines of P1 to P37). -/
import Derived.Test.YtkefmlhkejoknabXOwn
namespace Go.Proofs.Ytkefmlhkejoknab.L
set_option linter.unusedVariables false
set_option linter.unusedSimpArgs false
open Go.RowKit Go.Proofs.YtkefmlhkejoknabW.PrintWords Go.Proofs.YtkefmlhkejoknabW.PrintLast Go.Proofs.YtkefmlhkejoknabW.PrintMore

/-- From some figure on, it is r. -/
def Ev {α : Type} (g : Nat → Option α) (r : α) : Prop := ∃ K, ∀ k, K ≤ k → g k = some r
theorem Ev.const {α : Type} (r : α) : Ev (fun _ => some r) r := ⟨0, fun _ _ => rfl⟩
theorem Ev.step {α : Type} {g h : Nat → Option α} {r : α} (he : ∀ k, g (k + 1) = h k) (hh : Ev h r) : Ev g r := by
  obtain ⟨K, hK⟩ := hh
  refine ⟨K + 1, fun k hk => ?_⟩
  obtain ⟨j, rfl⟩ : ∃ j, k = j + 1 := ⟨k - 1, by omega⟩
  rw [he]; exact hK j (by omega)
theorem Ev.bind {α β : Type} {g : Nat → Option α} {h : Nat → α → Option β} {a : α} {b : β} (hg : Ev g a) (hh : Ev (fun k => h k a) b) : Ev (fun k => (g k).bind (h k)) b := by
  obtain ⟨K, hK⟩ := hg
  obtain ⟨M, hM⟩ := hh
  refine ⟨K + M, fun k hk => ?_⟩
  show (g k).bind (h k) = some b
  rw [hK k (by omega)]
  exact hM k (by omega)
theorem Ev.congr {α : Type} {g h : Nat → Option α} {r : α} (he : ∀ k, g k = h k) (hh : Ev h r) : Ev g r := by
  obtain ⟨K, hK⟩ := hh
  exact ⟨K, fun k hk => (he k).trans (hK k hk)⟩
theorem Ev.get {α : Type} {g : Nat → Option α} {r : α} (h : Ev g r) : ∃ k, g k = some r := by
  obtain ⟨K, hK⟩ := h
  exact ⟨K, hK K (Nat.le_refl _)⟩
theorem wrap64_id (x : Int) (h1 : -9223372036854775808 ≤ x) (h2 : x ≤ 9223372036854775807) : wrap64 x = x := by
  unfold wrap64; omega

/-- A list is cut as the law cuts it. -/
theorem edges_f (l : List S46) : remouldlaw05_edges.f l = some (l.take 41) := by
  unfold remouldlaw05_edges.f mn
  by_cases h : 41 < (l.length : Int)
  · rw [if_pos h]
    simp only [Int.reduceLE, if_true, Option.bind_some, List.nil_append, List.length_nil]
    rw [if_pos (by omega), if_pos (by simp; omega)]
    rfl
  · rw [if_neg h, if_pos (by omega), if_pos (by omega)]
    simp only [Option.bind_some, List.nil_append, List.length_nil]
    rw [if_pos (by simp; omega)]
    have e : (l.length : Int).toNat = l.length := by omega
    rw [e, List.take_of_length_le (Nat.le_refl _), List.take_of_length_le (by omega)]

/-- The edge at a place. -/
theorem rd_at (l : List S46) (i : Nat) (h : i < l.length) : rd_T46 l (i : Int) = l[i] := by simp [rd_T46, List.getElem?_eq_getElem h]

/-- All strings of 0 and 1 of a length, in order. -/
def strs : Nat → List ByteArray
  | 0 => [⟨#[]⟩]
  | i + 1 => (strs i).flatMap fun s => [s ++ (⟨#[48]⟩ : ByteArray), s ++ (⟨#[49]⟩ : ByteArray)]
theorem range_two (m : Nat) : List.range (2 * m) = (List.range m).flatMap fun s => [2 * s, 2 * s + 1] := by
  induction m with
  | zero => rfl
  | succ m ih =>
    rw [show 2 * (m + 1) = 2 * m + 1 + 1 by omega, List.range_succ, List.range_succ, ih, List.range_succ, List.flatMap_append]
    simp
theorem two_length (f g : ByteArray → ByteArray) (xs : List ByteArray) : (xs.flatMap fun s => [f s, g s]).length = 2 * xs.length := by
  induction xs with
  | nil => rfl
  | cons a l ih => rw [List.flatMap_cons, List.length_append, ih]; simp; omega
theorem text_bit (N s : Nat) (b : Nat) (hb : b < 2) : textB ((N + 1 : Nat) : Int) (2 * s + b) = textB (N : Int) s ++ (⟨#[if b = 1 then 49 else 48]⟩ : ByteArray) := by
  have e : charsB ((N + 1 : Nat) : Int) (2 * s + b) = charsB (N : Int) s ++ [if b = 1 then 49 else 48] := by
    unfold charsB
    rw [Int.toNat_natCast, Int.toNat_natCast, List.range_succ, List.map_append]
    congr 1
    · apply List.map_congr_left
      intro v hv
      have hv' : v < N := by simpa using hv
      have h1 : (((N + 1 : Nat) : Int) - 1 - (v : Int)).toNat = ((N : Int) - 1 - (v : Int)).toNat + 1 := by omega
      unfold hasB
      rw [h1, Nat.testBit_succ, show (2 * s + b) / 2 = s by omega]
    · have h1 : (((N + 1 : Nat) : Int) - 1 - (N : Int)).toNat = 0 := by omega
      simp only [List.map_cons, List.map_nil, hasB, h1, Nat.testBit_zero]
      have : b = 0 ∨ b = 1 := by omega
      rcases this with h | h <;> subst h <;> simp <;> omega
  unfold textB
  rw [e]
  apply ByteArray.ext
  simp
theorem strs_eq (N : Nat) : strs N = (List.range (2 ^ N)).map (textB (N : Int)) := by
  induction N with
  | zero => rfl
  | succ N ih =>
    rw [strs, ih, Nat.pow_succ, Nat.mul_comm, range_two, List.map_flatMap, List.flatMap_map]
    congr 1
    funext s
    simp only [List.map_cons, List.map_nil]
    have h0 : textB ((N + 1 : Nat) : Int) (2 * s) = textB (N : Int) s ++ (⟨#[48]⟩ : ByteArray) := text_bit N s 0 (by omega)
    have h1 : textB ((N + 1 : Nat) : Int) (2 * s + 1) = textB (N : Int) s ++ (⟨#[49]⟩ : ByteArray) := text_bit N s 1 (by omega)
    rw [h0, h1]
theorem strs_length (N : Nat) : (strs N).length = 2 ^ N := by rw [strs_eq]; simp
theorem text_size (N s : Nat) : (textB (N : Int) s).size = N := by simp [textB, charsB, ByteArray.size]
theorem strs_at (N s : Nat) (h : s < 2 ^ N) : rdOf ByteArray.empty (strs N) (s : Int) = textB (N : Int) s := by
  simp [rdOf, strs_eq, h]
theorem strs_size (N : Nat) (i : Nat) (h : i < 2 ^ N) : (rdOf ByteArray.empty (strs N) (i : Int)).size = N := by rw [strs_at N i h, text_size]

/-- The inner loop of All. -/
theorem all_l1 (n : Int) (i : Nat) (hi : i < 12) (r : List ByteArray) (hr : Ev (fun k => remouldref05_All.l0 k n (strs (i + 1)) ((i : Int) + 1)) r) :
    ∀ d j : Nat, j + d = 2 ^ i → Ev (fun k => remouldref05_All.l1 k n (strs i) (i : Int) (((strs i).take j).flatMap fun s => [s ++ (⟨#[48]⟩ : ByteArray), s ++ (⟨#[49]⟩ : ByteArray)]) (j : Int)) r := by
  have hp : 2 ^ i ≤ 2 ^ 11 := Nat.pow_le_pow_right (by omega) (by omega)
  have hlen := strs_length i
  intro d
  induction d with
  | zero =>
    intro j hj
    obtain rfl : j = 2 ^ i := by omega
    rw [List.take_of_length_le (by omega)]
    exact Ev.step (fun k => by rw [remouldref05_All.l1, if_neg (by omega), wrap64_id _ (by omega) (by omega)]; rfl) hr
  | succ d ih =>
    intro j hj
    have hlt : j < 2 ^ i := by omega
    have hsz := strs_size i j hlt
    have hl2 : (((strs i).take j).flatMap fun s => [s ++ (⟨#[48]⟩ : ByteArray), s ++ (⟨#[49]⟩ : ByteArray)]).length = 2 * j := by
      rw [two_length, List.length_take]; omega
    have e : (((strs i).take (j + 1)).flatMap fun s => [s ++ (⟨#[48]⟩ : ByteArray), s ++ (⟨#[49]⟩ : ByteArray)]) = (((strs i).take j).flatMap fun s => [s ++ (⟨#[48]⟩ : ByteArray), s ++ (⟨#[49]⟩ : ByteArray)]) ++ [rdOf ByteArray.empty (strs i) (j : Int) ++ (⟨#[48]⟩ : ByteArray), rdOf ByteArray.empty (strs i) (j : Int) ++ (⟨#[49]⟩ : ByteArray)] := by
      rw [List.take_succ_eq_append_getElem (by omega), List.flatMap_append]
      simp [rdOf, List.getElem?_eq_getElem (by omega : j < (strs i).length)]
    refine Ev.step (h := fun k => remouldref05_All.l1 k n (strs i) (i : Int) (((strs i).take (j + 1)).flatMap fun s => [s ++ (⟨#[48]⟩ : ByteArray), s ++ (⟨#[49]⟩ : ByteArray)]) ((j + 1 : Nat) : Int)) (fun k => ?_) (ih (j + 1) (by omega))
    rw [remouldref05_All.l1, if_pos (by omega), if_pos (by omega), if_pos (by omega)]
    simp only [Option.bind_some]
    rw [if_pos (by simp [hl2]; omega), wrap64_id _ (by omega) (by omega), e]
    rfl
theorem all_l0 (N : Nat) (hN : N ≤ 12) : ∀ d i : Nat, i + d = N → Ev (fun k => remouldref05_All.l0 k (N : Int) (strs i) (i : Int)) (strs N) := by
  intro d
  induction d with
  | zero =>
    intro i hi
    obtain rfl : i = N := by omega
    exact Ev.step (fun k => by rw [remouldref05_All.l0, if_neg (by omega)]) (Ev.const _)
  | succ d ih =>
    intro i hi
    refine Ev.step (fun k => by rw [remouldref05_All.l0, if_pos (by omega)]) ?_
    have := all_l1 N i (by omega) (strs N) (ih (i + 1) (by omega)) (2 ^ i) 0 (by omega)
    exact this
theorem all_f (n : Int) (h0 : 1 ≤ n) (hn : n ≤ 12) : Ev (fun k => remouldref05_All.f k n) (strs n.toNat) := by
  obtain ⟨N, rfl⟩ := Int.eq_ofNat_of_zero_le (show 0 ≤ n by omega)
  exact all_l0 N (by omega) N 0 (by omega)

theorem bt_text (N s : Nat) (v : Int) (h0 : 0 ≤ v) (h1 : v < N) : bt (textB (N : Int) s) v = if hasB (N : Int) s v then 49 else 48 := by
  obtain ⟨v, rfl⟩ := Int.eq_ofNat_of_zero_le h0
  have hv : v < N := by omega
  unfold bt
  rw [dif_pos (by rw [text_size]; omega)]
  have e : (textB (N : Int) s)[(v : Int).toNat]'(by rw [text_size]; omega) = (if hasB (N : Int) s (v : Int) then (49 : UInt8) else 48) := by
    simp [textB, charsB, ByteArray.getElem_eq_getElem_data]
  rw [e]
  split <;> rfl
theorem bt_cut (N s : Nat) (a b : Int) (ha : 0 ≤ a ∧ a < N) (hb : 0 ≤ b ∧ b < N) : bt (textB (N : Int) s) a = bt (textB (N : Int) s) b ↔ (hasB (N : Int) s a != hasB (N : Int) s b) = false := by
  rw [bt_text N s a ha.1 ha.2, bt_text N s b hb.1 hb.2]
  cases hasB (N : Int) s a <;> cases hasB (N : Int) s b <;> simp

theorem value_l0 (N s : Nat) (l : List S46) (hl : l.length ≤ 41) (hE : EdgesIn N l) : ∀ d i : Nat, i + d = l.length → Ev (fun k => remouldref05_Value.l0 k l (textB (N : Int) s) (valB N s (l.take i)) (i : Int)) (valB N s l) := by
  intro d
  induction d with
  | zero =>
    intro i hi
    obtain rfl : i = l.length := by omega
    rw [List.take_of_length_le (Nat.le_refl _)]
    exact Ev.step (fun k => by rw [remouldref05_Value.l0, if_neg (by omega)]) (Ev.const _)
  | succ d ih =>
    intro i hi
    have hlt : i < l.length := by omega
    have hb := hE i hlt
    have hbd := valB_bound N s l hE i (by omega)
    have ht := valB_take N s l i hlt
    have hcut := bt_cut N s (rd_T46 l (i : Int)).f0 (rd_T46 l (i : Int)).f1 ⟨hb.1, hb.2.1⟩ ⟨hb.2.2.1, hb.2.2.2.1⟩
    refine Ev.step (h := fun k => remouldref05_Value.l0 k l (textB (N : Int) s) (valB N s (l.take (i + 1))) ((i + 1 : Nat) : Int)) (fun k => ?_) (ih (i + 1) (by omega))
    rw [remouldref05_Value.l0, text_size, if_pos (by omega), if_pos (by omega), if_pos hb.1, if_pos hb.2.1, if_pos hb.2.2.1, if_pos hb.2.2.2.1, wrap64_id ((i : Int) + 1) (by omega) (by omega), ht]
    by_cases hc : cutB N s (rd_T46 l (i : Int)) = true
    · rw [if_neg (fun h => by have := hcut.1 h; rw [cutB] at hc; rw [hc] at this; cases this), if_pos hc, wrap64_id _ (by omega) (by omega)]
      rfl
    · have hc' : cutB N s (rd_T46 l (i : Int)) = false := by simpa using hc
      rw [if_pos (hcut.2 hc'), if_neg hc, Int.add_zero]
      rfl
theorem value_f (N s : Nat) (l : List S46) (hl : l.length ≤ 41) (hE : EdgesIn N l) : Ev (fun k => remouldref05_Value.f k l (textB (N : Int) s)) (valB N s l) := by
  have := value_l0 N s l hl hE l.length 0 (by omega)
  exact this

/-- The sides of the first half are the proper ones. -/
theorem proper_half (N s : Nat) (h0 : 1 ≤ N) (hs : s < 2 ^ (N - 1)) : properB (N : Int) s = true := by
  have e : ((N : Int) - 1 - 0).toNat = N - 1 := by omega
  rw [properB, hasB, e, Nat.testBit_lt_two_pow hs]; rfl
theorem proper_not (N s : Nat) (h0 : 1 ≤ N) (h1 : 2 ^ (N - 1) ≤ s) (h2 : s < 2 ^ N) : properB (N : Int) s = false := by
  have e : ((N : Int) - 1 - 0).toNat = N - 1 := by omega
  obtain ⟨t, rfl⟩ : ∃ t, s = 2 ^ (N - 1) + t := ⟨s - 2 ^ (N - 1), by omega⟩
  have h3 : 2 ^ N = 2 ^ (N - 1) + 2 ^ (N - 1) := by
    obtain ⟨m, rfl⟩ : ∃ m, N = m + 1 := ⟨N - 1, by omega⟩
    rw [Nat.pow_succ]; simp; omega
  rw [properB, hasB, e, Nat.testBit_two_pow_add_eq, Nat.testBit_lt_two_pow (by omega)]; rfl
theorem ints_l0 (a b : List Int) (hl : a.length = b.length) (hs : a.length ≤ 1000000) : ∀ d i : Nat, i + d = a.length → a.take i = b.take i → Ev (fun k => remouldlaw05_ints.l0 k a b (i : Int)) (decide (a = b)) := by
  intro d
  induction d with
  | zero =>
    intro i hi h
    obtain rfl : i = a.length := by omega
    rw [List.take_of_length_le (Nat.le_refl _), List.take_of_length_le (by omega)] at h
    rw [decide_eq_true h]
    exact Ev.step (fun k => by rw [remouldlaw05_ints.l0, if_neg (by omega)]) (Ev.const true)
  | succ d ih =>
    intro i hi h
    have hia : i < a.length := by omega
    have hib : i < b.length := by omega
    have ea : rd a (i : Int) = a[i] := by simp [rd, List.getElem?_eq_getElem hia]
    have eb : rd b (i : Int) = b[i] := by simp [rd, List.getElem?_eq_getElem hib]
    by_cases c : rd a (i : Int) = rd b (i : Int)
    · refine Ev.step (fun k => by rw [remouldlaw05_ints.l0, if_pos (by omega), if_pos (by omega), if_pos (by omega), if_pos c, wrap64_id _ (by omega) (by omega)]) ?_
      refine ih (i + 1) (by omega) ?_
      rw [List.take_succ_eq_append_getElem hia, List.take_succ_eq_append_getElem hib, h, ← ea, ← eb, c]
    · have hne : a ≠ b := by
        intro e; subst e; exact c rfl
      rw [decide_eq_false hne]
      exact Ev.step (fun k => by rw [remouldlaw05_ints.l0, if_pos (by omega), if_pos (by omega), if_pos (by omega), if_neg c]) (Ev.const false)
theorem ints_f (a b : List Int) (hs : a.length ≤ 1000000) : Ev (fun k => remouldlaw05_ints.f k a b) (decide (a = b)) := by
  by_cases hl : a.length = b.length
  · exact Ev.congr (fun k => by rw [remouldlaw05_ints.f, if_pos (by omega)]; rfl) (ints_l0 a b hl hs a.length 0 (by omega) rfl)
  · rw [decide_eq_false (fun e => hl (by rw [e]))]
    exact Ev.congr (fun k => by rw [remouldlaw05_ints.f, if_neg (by omega)]) (Ev.const false)

def tri : List S46 := [⟨0, 1, 1⟩, ⟨0, 2, 1⟩, ⟨1, 2, 1⟩]
theorem tri_best : belt_Best.f 3 tri = some (⟨#[48, 48, 49]⟩, 2, 0) := by rfl
theorem tri_count : belt_Count.f 3 tri = some (3, 0) := by rfl
theorem tri_odd : belt_Odd.f 3 tri = some ([0, 1, 2], 0) := by rfl
theorem tri_climb : belt_Climb.f 3 tri ⟨#[48, 48, 48]⟩ = some (⟨#[49, 48, 48]⟩, 1, 0) := by rfl

theorem awake_f : Ev (fun k => remouldlaw05_awake.f k) true := by
  have hi := ints_f [0, 1, 2] [0, 1, 2] (by simp)
  refine Ev.congr (h := fun k => (remouldlaw05_ints.f k [0, 1, 2] [0, 1, 2]).bind fun t150 => (if t150 = true then remouldlaw05_awake.j0 k false else remouldlaw05_awake.j0 k true)) (fun k => ?_) ?_
  · unfold remouldlaw05_awake.f remouldlaw05_triangle.f
    simp only [Option.bind_some]
    rw [show ([⟨0, 1, 1⟩, ⟨0, 2, 1⟩, ⟨1, 2, 1⟩] : List S46) = tri from rfl, tri_best, tri_count, tri_odd, tri_climb]
    simp only [Option.bind_some, ByteArray.toList_eq]
    rfl
  · refine Ev.bind hi ?_
    exact Ev.step (fun k => rfl) (Ev.const true)

theorem hasB_flip (N s i : Nat) (hi : i < N) (v : Int) (h0 : 0 ≤ v) (h1 : v < N) : hasB N (s ^^^ 2 ^ ((N : Int) - 1 - (i : Int)).toNat) v = (hasB N s v != decide (v = (i : Int))) := by
  unfold hasB
  rw [Nat.testBit_xor, Nat.testBit_two_pow]
  by_cases e : v = (i : Int)
  · subst e; simp
  · rw [decide_eq_false e, decide_eq_false (by omega)]
theorem gain_flip (N s i : Nat) (hi : i < N) (l : List S46) (hl : ∀ e ∈ l, 0 ≤ e.f0 ∧ e.f0 < N ∧ 0 ≤ e.f1 ∧ e.f1 < N ∧ e.f0 ≠ e.f1) : valB N (s ^^^ 2 ^ ((N : Int) - 1 - (i : Int)).toNat) l - valB N s l = gainB N s i l := by
  induction l with
  | nil => rfl
  | cons e l ih =>
    have h := hl e List.mem_cons_self
    have ih' := ih (fun x hx => hl x (List.mem_cons_of_mem _ hx))
    have hc : cutB N (s ^^^ 2 ^ ((N : Int) - 1 - (i : Int)).toNat) e = (cutB N s e != decide (e.f0 = (i : Int) ∨ e.f1 = (i : Int))) := by
      unfold cutB
      rw [hasB_flip N s i hi _ h.1 h.2.1, hasB_flip N s i hi _ h.2.2.1 h.2.2.2.1]
      have hne := h.2.2.2.2
      by_cases a : e.f0 = (i : Int)
      · have b : ¬ e.f1 = (i : Int) := fun b => hne (a.trans b.symm)
        rw [decide_eq_true a, decide_eq_false b, decide_eq_true (Or.inl a)]
        cases hasB N s e.f0 <;> cases hasB N s e.f1 <;> rfl
      · by_cases b : e.f1 = (i : Int)
        · rw [decide_eq_false a, decide_eq_true b, decide_eq_true (Or.inr b)]
          cases hasB N s e.f0 <;> cases hasB N s e.f1 <;> rfl
        · rw [decide_eq_false a, decide_eq_false b, decide_eq_false (by rintro (h | h); exact a h; exact b h)]
          cases hasB N s e.f0 <;> cases hasB N s e.f1 <;> rfl
    generalize s ^^^ 2 ^ ((N : Int) - 1 - (i : Int)).toNat = T at ih' hc
    rw [valB, valB, gainB, hc]
    by_cases p : e.f0 = (i : Int) ∨ e.f1 = (i : Int)
    · rw [if_pos p, decide_eq_true p]
      cases cutB N s e <;> simp only [Bool.bne_true, Bool.not_false, Bool.not_true, if_true, if_false, Bool.false_eq_true] <;> omega
    · rw [if_neg p, decide_eq_false p]
      cases cutB N s e <;> simp only [Bool.bne_false, if_true, if_false, Bool.false_eq_true] <;> omega

theorem has_num (N : Nat) (t : ByteArray) (k : Nat) (hk : k ≤ N) (v : Nat) (hv : v < N) : hasB N (numB N t k) (v : Int) = decide (v < k ∧ t.data.toList[v]? = some 49) := by
  induction k with
  | zero => simp [numB, hasB]
  | succ k ih =>
    have ih' := ih (by omega)
    rw [numB]
    by_cases hc : t.data.toList[k]? = some 49
    · rw [if_pos hc]
      unfold hasB at ih' ⊢
      rw [Nat.testBit_or, ih', Nat.testBit_two_pow]
      by_cases e : v = k
      · subst e
        simp [hc]
      · have h1 : ((N : Int) - 1 - (k : Int)).toNat ≠ ((N : Int) - 1 - (v : Int)).toNat := by omega
        simp only [h1, decide_false, Bool.or_false]
        congr 1
        simp only [eq_iff_iff]
        constructor
        · rintro ⟨a, b⟩; exact ⟨by omega, b⟩
        · rintro ⟨a, b⟩; exact ⟨by omega, b⟩
    · rw [if_neg hc, ih']
      congr 1
      simp only [eq_iff_iff]
      constructor
      · rintro ⟨a, b⟩; exact ⟨by omega, b⟩
      · rintro ⟨a, b⟩
        refine ⟨?_, b⟩
        by_cases e : v = k
        · subst e; exact absurd b hc
        · omega
/-- The side with a vertex flipped. -/
def flipS (N s i : Nat) : Nat := s ^^^ 2 ^ ((N : Int) - 1 - (i : Int)).toNat
theorem chars_flip (N s i : Nat) (hi : i < N) : charsB N (flipS N s i) = (charsB N s).set i (if hasB N s (i : Int) then 48 else 49) := by
  apply List.ext_getElem
  · simp [charsB]
  · intro v h1 h2
    have hv : v < N := by simpa [charsB] using h1
    simp only [charsB, Int.toNat_natCast, List.getElem_map, List.getElem_range, List.getElem_set, flipS]
    rw [hasB_flip N s i hi (v : Int) (by omega) (by omega)]
    by_cases e : i = v
    · subst e
      simp only [decide_true, Bool.bne_true, if_true]
      cases hasB N s (i : Int) <;> rfl
    · rw [if_neg e, decide_eq_false (by omega), Bool.bne_false]
theorem set_parts {α : Type} (l : List α) (i : Nat) (x : α) (h : i < l.length) : (l.take i ++ [x]) ++ (l.drop (i + 1)).take (l.length - (i + 1)) = l.set i x := by
  have e : (l.drop (i + 1)).take (l.length - (i + 1)) = l.drop (i + 1) := List.take_of_length_le (by simp)
  rw [e, List.set_eq_take_append_cons_drop, if_pos h, List.append_assoc]
  rfl
theorem flip_f (N s i : Nat) (hi : i < N) (hN : N ≤ 12) : remouldref05_Flip.f (textB N s) (i : Int) = some (textB N (flipS N s i)) := by
  have hsz := text_size N s
  have hlen : (charsB N s).length = N := by simp [charsB]
  have key : ∀ x : UInt8, ((textB (N : Int) s).extract 0 i ++ (⟨#[x]⟩ : ByteArray)) ++ (textB (N : Int) s).extract (i + 1) (textB (N : Int) s).size = ⟨((charsB N s).set i x).toArray⟩ := by
    intro x
    rw [hsz]
    apply ByteArray.ext
    apply Array.ext'
    have := set_parts (charsB N s) i x (by omega)
    rw [hlen] at this
    simp only [ByteArray.data_append, ByteArray.data_extract, Array.toList_append, Array.toList_extract, List.extract, List.drop_zero, Nat.sub_zero]
    exact this
  rw [remouldref05_Flip.f, if_pos ⟨by omega, by omega, by omega⟩, bt_text N s (i : Int) (by omega) (by omega), Int.toNat_natCast]
  have hf := chars_flip N s i hi
  have e2 : textB (N : Int) (flipS N s i) = ⟨((charsB N s).set i (if hasB N s (i : Int) then 48 else 49)).toArray⟩ := by
    unfold textB; rw [hf]
  rw [e2]
  cases hh : hasB N s (i : Int)
  · simp only [Bool.false_eq_true, if_false, if_true]
    exact congrArg some (key 49)
  · simp only [if_true]
    rw [if_neg (by decide)]
    exact congrArg some (key 48)

/-- What is known of the edges of a graph. -/
def EdgesNe (N : Nat) (l : List S46) : Prop := ∀ e ∈ l, 0 ≤ e.f0 ∧ e.f0 < N ∧ 0 ≤ e.f1 ∧ e.f1 < N ∧ e.f0 ≠ e.f1
theorem edgesNe_of {N : Nat} {l : List S46} (h : graphOk N l = true) : EdgesNe N l := by
  intro e he
  obtain ⟨i, hi, rfl⟩ := List.getElem_of_mem he
  have := (edgeOk_iff ..).1 (graphOk_edge h i hi).1
  rw [rd_at l i hi] at this
  omega
theorem val_all_bound (n : Int) (s : Nat) (l : List S46) (hl : l.length ≤ 41) (hE : EdgesIn n l) : -2050 ≤ valB n s l ∧ valB n s l ≤ 2050 := by
  have := valB_bound n s l hE l.length (Nat.le_refl _)
  rw [List.take_length] at this
  omega
theorem gains_l0 (N s : Nat) (hN : N ≤ 12) (l : List S46) (hl : l.length ≤ 41) (hE : EdgesIn N l) (hne : EdgesNe N l) : ∀ d i : Nat, i + d = N →
    Ev (fun k => remouldref05_Gains.l0 k l (textB N s) ((List.range i).map fun j => gainB N s j l) (i : Int)) ((List.range N).map fun j => gainB N s j l) := by
  have hsz := text_size N s
  intro d
  induction d with
  | zero =>
    intro i hi
    obtain rfl : i = N := by omega
    exact Ev.step (fun k => by rw [remouldref05_Gains.l0, hsz, if_neg (by omega)]) (Ev.const _)
  | succ d ih =>
    intro i hi
    have hlt : i < N := by omega
    have b1 : Ev (fun _ : Nat => remouldref05_Flip.f (textB N s) (i : Int)) (textB N (flipS N s i)) := ⟨0, fun _ _ => flip_f N s i hlt hN⟩
    refine Ev.step (fun k => by rw [remouldref05_Gains.l0, hsz, if_pos (by omega)]) (Ev.bind b1 (Ev.bind (value_f N (flipS N s i) l hl hE) (Ev.bind (value_f N s l hl hE) ?_)))
    have ih' := ih (i + 1) (by omega)
    have h1 := val_all_bound N (flipS N s i) l hl hE
    have h2 := val_all_bound N s l hl hE
    have hg : valB N (flipS N s i) l - valB N s l = gainB N s i l := gain_flip N s i hlt l hne
    refine Ev.congr (fun k => ?_) ih'
    rw [if_pos (by simp; omega), wrap64_id _ (by omega) (by omega), wrap64_id _ (by omega) (by omega), hg, List.range_succ, List.map_append]
    rfl
theorem gains_f (N s : Nat) (hN : N ≤ 12) (l : List S46) (hl : l.length ≤ 41) (hE : EdgesIn N l) (hne : EdgesNe N l) : Ev (fun k => remouldref05_Gains.f k l (textB N s)) ((List.range N).map fun j => gainB N s j l) :=
  gains_l0 N s hN l hl hE hne N 0 (by omega)

/-- An odd cycle has no two colors. -/
theorem cycle_uncut (k : Nat) (hk : k % 2 = 1) (c : Nat → Bool) (hc : c k = c 0) : ∃ i, i < k ∧ c i = c (i + 1) := by
  by_cases h : ∃ i, i < k ∧ c i = c (i + 1)
  · exact h
  · exfalso
    have h' : ∀ i, i < k → c (i + 1) = !c i := fun i hi => by
      have : ¬ c i = c (i + 1) := fun e => h ⟨i, hi, e⟩
      cases h1 : c i <;> cases h2 : c (i + 1) <;> simp_all
    have : ∀ i, i ≤ k → c i = (c 0 ^^ decide (i % 2 = 1)) := by
      intro i
      induction i with
      | zero => intro _; simp
      | succ i ih =>
        intro hi
        rw [h' i (by omega), ih (by omega)]
        by_cases e : i % 2 = 1
        · rw [decide_eq_true e, decide_eq_false (by omega)]; cases c 0 <;> rfl
        · rw [decide_eq_false e, decide_eq_true (by omega)]; cases c 0 <;> rfl
    have := this k (Nat.le_refl _)
    rw [hc, decide_eq_true hk] at this
    cases h0 : c 0 <;> rw [h0] at this <;> cases this

/-- A number with given bits. -/
def bitsN (f : Nat → Bool) : Nat → Nat
  | 0 => 0
  | k + 1 => if f k then 2 ^ k + bitsN f k else bitsN f k
theorem bitsN_lt (f : Nat → Bool) (k : Nat) : bitsN f k < 2 ^ k := by
  induction k with
  | zero => simp [bitsN]
  | succ k ih =>
    rw [bitsN, Nat.pow_succ]
    split <;> omega
theorem bitsN_test (f : Nat → Bool) (k i : Nat) (h : i < k) : (bitsN f k).testBit i = f i := by
  induction k with
  | zero => omega
  | succ k ih =>
    rw [bitsN]
    by_cases e : i = k
    · subst e
      cases c : f i
      · rw [if_neg (by decide)]; exact Nat.testBit_lt_two_pow (bitsN_lt f i)
      · rw [if_pos rfl, Nat.testBit_two_pow_add_eq, Nat.testBit_lt_two_pow (bitsN_lt f i)]; rfl
    · rw [← ih (by omega)]
      split
      · exact Nat.testBit_two_pow_add_gt (by omega) _
      · rfl
/-- The opposite side, as flips of all vertices. -/
theorem comp_bits (N s t : Nat) (hs : s < 2 ^ N) (ht : t < 2 ^ N) (h : ∀ v : Nat, v < N → hasB N s (v : Int) = hasB N t (v : Int)) : s = t := by
  apply Nat.eq_of_testBit_eq
  intro i
  by_cases hi : i < N
  · have := h (N - 1 - i) (by omega)
    unfold hasB at this
    rwa [show ((N : Int) - 1 - ((N - 1 - i : Nat) : Int)).toNat = i by omega] at this
  · rw [Nat.testBit_lt_two_pow (Nat.lt_of_lt_of_le hs (Nat.pow_le_pow_right (by omega) (by omega))), Nat.testBit_lt_two_pow (Nat.lt_of_lt_of_le ht (Nat.pow_le_pow_right (by omega) (by omega)))]
theorem cyc_mem_len (n : Int) (l : List S46) (size : Nat) : ∀ (d : Nat) (p x : List Int), p ≠ [] → x ∈ cycB n l size d p → x.length = p.length + d := by
  intro d
  induction d with
  | zero =>
    intro p x _ hx
    rw [cycB] at hx
    split at hx
    · simp at hx
    · simp at hx; subst hx; rfl
  | succ d ih =>
    intro p x hne hx
    rw [cycB_step n l size d p _ _ hne rfl rfl, List.mem_flatMap] at hx
    obtain ⟨v, _, hv⟩ := hx
    split at hv
    · have := ih _ x (by simp) hv
      simp at this; omega
    · simp at hv
theorem cycles_mem_len {n : Int} {l : List S46} {size : Nat} {x : List Int} (h3 : 3 ≤ size) (hx : x ∈ cyclesB n l size) : x.length = size := by
  unfold cyclesB at hx
  rw [List.mem_flatMap] at hx
  obtain ⟨v, _, hv⟩ := hx
  have := cyc_mem_len n l size _ _ x (by simp) hv
  simp at this; omega
theorem edgesOk_append (n : Int) (l m : List S46) : ∀ k, k ≤ l.length → edgesOk n (l ++ m) k = edgesOk n l k := by
  intro k
  induction k with
  | zero => intro _; rfl
  | succ k ih =>
    intro hk
    rw [edgesOk, edgesOk, ih (by omega), List.getElem?_append_left (by omega), List.take_append_of_le_length (by omega)]
theorem edgesOk_snoc (n : Int) (l : List S46) (e : S46) (h : edgesOk n l l.length = true) (he : edgeOk n e = true) (hno : hasEdge l e.f0 e.f1 = false) : edgesOk n (l ++ [e]) (l ++ [e]).length = true := by
  rw [List.length_append, List.length_singleton, edgesOk, edgesOk_append n l [e] l.length (Nat.le_refl _), h, List.getElem?_append_right (Nat.le_refl _)]
  simp only [Nat.sub_self, List.getElem?_cons_zero, Bool.true_and, List.take_left']
  rw [he, hno]; rfl
theorem ends_lt (n x : Int) (hn : 1 < n) (hx : 0 ≤ x) : 0 ≤ endA n x ∧ endA n x < endB n x ∧ endB n x < n := by
  have i1 := Int.emod_nonneg x (show n ≠ 0 by omega)
  have i2 := Int.emod_lt_of_pos x (show 0 < n by omega)
  have i5 := Int.emod_nonneg (x / n) (show n - 1 ≠ 0 by omega)
  have i6 := Int.emod_lt_of_pos (x / n) (show 0 < n - 1 by omega)
  unfold endA endB
  generalize x / n % (n - 1) = r at i5 i6
  generalize x % n = a at i1 i2
  have hb : (a + 1 + r) % n = if a + 1 + r < n then a + 1 + r else a + 1 + r - n := by
    split
    · exact Int.emod_eq_of_lt (by omega) (by omega)
    · rw [show a + 1 + r = (a + 1 + r - n) + n by omega, Int.add_emod_right, Int.emod_eq_of_lt (by omega) (by omega)]
      omega
  rw [hb]
  split <;> split <;> omega
/-- What is known of a tame graph. -/
theorem tameGo_good (n : Int) (hn : 1 < n) (hn2 : n ≤ 12) (most : Nat) (low : Int) (hlow : -50 ≤ low) (hlow2 : low ≤ 50) : ∀ (l : List Int) (used : Nat → Bool) (out : List S46),
    edgesOk n out out.length = true → (∀ e ∈ out, used (e.f0.toNat * 12 + e.f1.toNat) = true ∧ 0 ≤ e.f0 ∧ 0 ≤ e.f1 ∧ e.f1 < 12) → (∀ e ∈ out, low ≤ e.f2) → out.length ≤ most →
    edgesOk n (tameGo n most low l used out) (tameGo n most low l used out).length = true ∧ (∀ e ∈ tameGo n most low l used out, low ≤ e.f2) ∧ (tameGo n most low l used out).length ≤ most := by
  intro l
  induction l with
  | nil => intro used out h1 h2 h3 h4; exact ⟨h1, h3, h4⟩
  | cons v l ih =>
    intro used out h1 h2 h3 h4
    rw [tameGo]
    have hx := modU_in v 1099511627776 (by omega)
    generalize modU v 1099511627776 = x at hx
    obtain ⟨e1, e2, e3⟩ := ends_lt n x hn hx.1
    generalize endA n x = a at e1 e2
    generalize endB n x = b at e2 e3
    have j1 := Int.emod_nonneg (x / n / n) (show 50 - low + 1 ≠ 0 by omega)
    have j2 := Int.emod_lt_of_pos (x / n / n) (show 0 < 50 - low + 1 by omega)
    generalize x / n / n % (50 - low + 1) = wt at j1 j2
    by_cases c : (out.length : Int) < most
    · rw [if_pos c]
      cases hu : used (a.toNat * 12 + b.toNat)
      · rw [if_neg (by decide)]
        refine ih _ _ (edgesOk_snoc n out _ h1 ((edgeOk_iff _ _).2 ⟨⟨by show 1 ≤ b; omega, by show b ≤ n - 1; omega⟩, ⟨e1, by show a ≤ b - 1; omega⟩, ⟨by show -50 ≤ low + wt; omega, by show low + wt ≤ 50; omega⟩⟩) ?_) ?_ ?_ ?_
        · rw [Bool.eq_false_iff]
          intro hh
          unfold hasEdge at hh
          rw [List.any_eq_true] at hh
          obtain ⟨e, he, hp⟩ := hh
          simp only [Bool.and_eq_true, beq_iff_eq] at hp
          have := (h2 e he).1
          rw [hp.1, hp.2, hu] at this; cases this
        · intro e he
          rw [List.mem_append, List.mem_singleton] at he
          rcases he with he | rfl
          · have := h2 e he
            exact ⟨by rw [this.1]; rfl, this.2⟩
          · exact ⟨by simp, e1, by show 0 ≤ b; omega, by show b < 12; omega⟩
        · intro e he
          rw [List.mem_append, List.mem_singleton] at he
          rcases he with he | rfl
          · exact h3 e he
          · show low ≤ low + wt; omega
        · simp; omega
      · rw [if_pos rfl]
        exact ih used out h1 h2 h3 h4
    · rw [if_neg c]
      exact ⟨h1, h3, h4⟩
theorem tame_f (a0 : Int) (l : List Int) (most : Nat) (low : Int) (hl : l.length * 8 ≤ 140737488351232) (hm : most ≤ 40) (hlow : -50 ≤ low) (hlow2 : low ≤ 50) :
    ∃ (N : Nat) (g : List S46), remouldlaw05_tame.f a0 l most low = some ((N : Int), g) ∧ 1 ≤ N ∧ N ≤ 12 ∧ graphOk N g = true ∧ (∀ e ∈ g, low ≤ e.f2) ∧ g.length ≤ most := by
  have hin := modU_in a0 12 (by omega)
  refine ⟨(1 + modU a0 12).toNat, if 1 + modU a0 12 > 1 then tameGo (1 + modU a0 12) most low l (fun _ => false) [] else [], ?_, by omega, by omega, ?_⟩
  · rw [remouldlaw05_tame.f, if_pos ⟨hl, by omega, hlow, hlow2⟩]
    congr 2
    omega
  · have e : (((1 + modU a0 12).toNat : Nat) : Int) = 1 + modU a0 12 := by omega
    rw [e]
    by_cases c : 1 + modU a0 12 > 1
    · rw [if_pos c]
      obtain ⟨g1, g2, g3⟩ := tameGo_good (1 + modU a0 12) c (by omega) most low hlow hlow2 l (fun _ => false) [] rfl (by simp) (by simp) (by simp)
      refine ⟨?_, g2, g3⟩
      rw [graphOk, (inB_iff _ 1 12).2 ⟨by omega, by omega⟩, decide_eq_true (show _ ≤ 40 by omega), g1]; rfl
    · rw [if_neg c]
      refine ⟨?_, by simp, by simp⟩
      rw [graphOk, (inB_iff _ 1 12).2 ⟨by omega, by omega⟩]; rfl

/-- The side that any int stands for. -/
def sideN (x : Int) (N : Nat) : Nat := bitsN (fun i => (modU x 4096).toNat.testBit (N - 1 - i)) N
theorem sideN_lt (x : Int) (N : Nat) : sideN x N < 2 ^ N := bitsN_lt _ _
theorem sideN_has (x : Int) (N v : Nat) (hv : v < N) : hasB N (sideN x N) (v : Int) = (modU x 4096).toNat.testBit v := by
  unfold hasB sideN
  rw [bitsN_test _ _ _ (by omega)]
  congr 1; omega
theorem side_l0' (x : Int) (N : Nat) (hN : N ≤ 12) : ∀ d i : Nat, i + d = N → Ev (fun k => remouldlaw05_side.l0 k x N ((List.range i).map fun (j : Nat) => if hasB N (sideN x N) (j : Int) then 49 else 48) (i : Int)) (textB N (sideN x N)) := by
  have hin := modU_in x 4096 (by omega)
  intro d
  induction d with
  | zero =>
    intro i hi
    obtain rfl : i = N := by omega
    refine Ev.step (fun k => by rw [remouldlaw05_side.l0, if_neg (by omega)]) ?_
    have := text_of i (sideN x i)
    rw [← this]
    have e : numsT i (sideN x i) i = (List.range i).map fun (j : Nat) => if hasB i (sideN x i) (j : Int) then (49 : Int) else 48 := by
      unfold numsT
      apply List.map_congr_left
      intro j hj
      rw [if_pos (by simpa using hj)]
    rw [e]
    exact Ev.const _
  | succ d ih =>
    intro i hi
    have hm : Ev (fun _ : Nat => remouldlaw05_mod.f x 4096) (modU x 4096) := ⟨0, fun _ _ => mod_f x 4096 (by omega) (by omega)⟩
    refine Ev.step (fun k => by rw [remouldlaw05_side.l0, if_pos (by omega)]) (Ev.bind hm ?_)
    have ih' := ih (i + 1) (by omega)
    refine Ev.congr (fun k => ?_) ih'
    rw [if_pos (by omega), if_pos (by simp; omega), wrap64_id ((i : Int) + 1) (by omega) (by omega)]
    have hbit := sideN_has x N i (by omega)
    have hsh : shr .i64 (modU x 4096) (i : Int) = (((modU x 4096).toNat / 2 ^ i : Nat) : Int) := by
      have h0 : shr .i64 (modU x 4096) (i : Int) = modU x 4096 / 2 ^ min (i : Int).toNat 64 := rfl
      rw [h0, Int.toNat_natCast, Nat.min_eq_left (by omega)]
      obtain ⟨y, hy⟩ := Int.eq_ofNat_of_zero_le hin.1
      rw [hy]; simp
    have hch : wrap64 (48 + Int.tmod (shr .i64 (modU x 4096) (i : Int)) 2) % 256 = if hasB N (sideN x N) (i : Int) then 49 else 48 := by
      rw [hsh, hbit, Nat.testBit_eq_decide_div_mod_eq]
      generalize (modU x 4096).toNat / 2 ^ i = z
      rw [Int.tmod_eq_emod_of_nonneg (by omega)]
      by_cases hz : z % 2 = 1
      · rw [decide_eq_true hz, if_pos rfl]
        unfold wrap64; omega
      · rw [decide_eq_false hz, if_neg (by decide)]
        unfold wrap64; omega
    rw [hch, List.range_succ, List.map_append]
    rfl
theorem lawside_f (x : Int) (N : Nat) (hN : N ≤ 12) : Ev (fun k => remouldlaw05_side.f k x N) (textB N (sideN x N)) := side_l0' x N hN N 0 (by omega)

/-- A side's string is read back. -/
theorem text_side (N s : Nat) (hs : s < 2 ^ N) : sideOk N (textB N s) = true ∧ numB N (textB N s) (textB N s).size = s := by
  have hsz := text_size N s
  have h1 : sideOk N (textB N s) = true := by
    unfold sideOk
    rw [hsz, decide_eq_true rfl, Bool.true_and, List.all_eq_true]
    intro c hc
    have : c ∈ charsB N s := by simpa [textB] using hc
    unfold charsB at this
    rw [List.mem_map] at this
    obtain ⟨v, _, rfl⟩ := this
    split <;> rfl
  refine ⟨h1, ?_⟩
  rw [hsz]
  have hlt : numB N (textB N s) N < 2 ^ N := by
    have : ∀ k, k ≤ N → numB N (textB N s) k < 2 ^ N := by
      intro k
      induction k with
      | zero => intro _; rw [numB]; exact Nat.two_pow_pos N
      | succ k ih =>
        intro hk
        rw [numB]
        split
        · exact Nat.or_lt_two_pow (ih (by omega)) (Nat.pow_lt_pow_right (by omega) (by omega))
        · exact ih (by omega)
    exact this N (Nat.le_refl _)
  apply comp_bits N _ _ hlt hs
  intro v hv
  rw [has_num N (textB N s) N (Nat.le_refl _) v hv]
  have e : (textB (N : Int) s).data.toList[v]? = some (if hasB N s (v : Int) then (49 : UInt8) else 48) := by
    simp [textB, charsB, hv]
  rw [e]
  cases hasB N s (v : Int) <;> simp [hv]
theorem gains_b (N s : Nat) (hs : s < 2 ^ N) (hN : N ≤ 12) (g : List S46) (hg : graphOk N g = true) : belt_Gains.f N g (textB N s) = some (gainsB N s g, 0) := by
  obtain ⟨h1, h2⟩ := text_side N s hs
  rw [belt_Gains.f, if_pos (by rw [text_size]; omega), hg, h1, h2]; rfl
theorem gainsB_length (N s : Nat) (g : List S46) : (gainsB N s g).length = N := by simp [gainsB]
theorem same_l0 (l : List S46) (hs : l.length ≤ 1000000) : ∀ d i : Nat, i + d = l.length → Ev (fun k => remouldlaw05_same.l0 k l l (i : Int)) true := by
  intro d
  induction d with
  | zero =>
    intro i hi
    obtain rfl : i = l.length := by omega
    exact Ev.step (fun k => by rw [remouldlaw05_same.l0, if_neg (by omega)]) (Ev.const true)
  | succ d ih =>
    intro i hi
    exact Ev.step (fun k => by rw [remouldlaw05_same.l0, if_pos (by omega), if_pos (by omega), if_pos (by omega), if_neg (by simp), wrap64_id _ (by omega) (by omega)]; rfl) (ih (i + 1) (by omega))
theorem same_f (l : List S46) (hs : l.length ≤ 1000000) : Ev (fun k => remouldlaw05_same.f k l l) true :=
  Ev.congr (fun k => by rw [remouldlaw05_same.f, if_pos rfl]; rfl) (same_l0 l hs l.length 0 (by omega))

theorem switch_b (N s : Nat) (hs : s < 2 ^ N) (hN : N ≤ 12) (g : List S46) (hg : graphOk N g = true) : belt_Switch.f N g (textB N s) = some (switchB N s g, 0) := by
  obtain ⟨h1, h2⟩ := text_side N s hs
  rw [belt_Switch.f, if_pos (by rw [text_size]; omega), hg, h1, h2]; rfl
theorem insU_at (v : Int) : ∀ (j : Nat) (xs : List Int), j ≤ xs.length → (∀ i, i < j → rd xs (i : Int) < v) → insU v xs = xs.take j ++ insU v (xs.drop j) := by
  intro j
  induction j with
  | zero => intro xs _ _; rfl
  | succ j ih =>
    intro xs hj h
    cases xs with
    | nil => simp at hj
    | cons x xs =>
      have h0 : x < v := h 0 (by omega)
      have ih' := ih xs (by simpa using hj) (fun i hi => by
        have := h (i + 1) (by omega)
        simp only [rd] at this ⊢
        have e : ((i + 1 : Nat) : Int).toNat = i + 1 := by omega
        rw [e] at this
        simpa using this)
      rw [insU, if_neg (by omega), if_neg (by omega), ih']
      rfl
/-- The values of the proper sides below i. -/
def valsTo (N : Nat) (l : List S46) (i : Nat) : List Int := valsOf N l (sidesUpTo (properB N) i)
theorem valsTo_succ (N : Nat) (l : List S46) (h0 : 1 ≤ N) (hN : N ≤ 12) (i : Nat) (hi : i < 2 ^ (N - 1)) : valsTo N l (i + 1) = insU (valB N i l) (valsTo N l i) := by
  have hp : 2 ^ (N - 1) ≤ 2 ^ 11 := Nat.pow_le_pow_right (by omega) (by omega)
  rw [valsTo, sidesUpTo_hit _ i (by omega) (proper_half N i h0 hi), valsOf_snoc]; rfl
theorem valsTo_all (N : Nat) (l : List S46) (h0 : 1 ≤ N) : ∀ d : Nat, 2 ^ (N - 1) + d ≤ 2 ^ N → valsTo N l (2 ^ (N - 1) + d) = valsTo N l (2 ^ (N - 1)) := by
  intro d
  induction d with
  | zero => intro _; rfl
  | succ d ih =>
    intro hd
    rw [← Nat.add_assoc, valsTo, sidesUpTo_miss _ _ (proper_not N _ h0 (by omega) (by omega))]
    exact ih (by omega)
theorem valsTo_length (N : Nat) (l : List S46) (i : Nat) : (valsTo N l i).length ≤ i := Nat.le_trans (valsOf_length _ _ _) (sidesUpTo_length _ _)

theorem values_l1 (l : List S46) (ss : List ByteArray) (xs : List Int) (hxs : xs.length ≤ 1000000) (i v : Int) (r : List Int) (hi0 : 0 ≤ i) (hi : i < 1000000)
    (hr : Ev (fun k => remouldref05_Values.l0 k l ss (insU v xs) (i + 1)) r) : ∀ d j : Nat, j + d = xs.length → (∀ i, i < j → rd xs (i : Int) < v) →
    Ev (fun k => remouldref05_Values.l1 k l ss xs i v (j : Int)) r := by
  have hw : wrap64 (i + 1) = i + 1 := wrap64_id _ (by omega) (by omega)
  intro d
  induction d with
  | zero =>
    intro j hj hb
    obtain rfl : j = xs.length := by omega
    have e := insU_at v xs.length xs (Nat.le_refl _) hb
    rw [List.drop_length] at e
    refine Ev.step (fun k => ?_) hr
    rw [remouldref05_Values.l1, if_neg (by omega), if_pos (by omega), if_pos (by omega), Option.bind_some, if_pos (by simp; omega), Option.bind_some, if_pos (by simp; omega), Option.bind_some, Option.bind_some, if_pos (by simp; omega), hw, e]
    congr 1
    simp [insU]
  | succ d ih =>
    intro j hj hb
    have hlt : j < xs.length := by omega
    by_cases c : rd xs (j : Int) < v
    · refine Ev.step (fun k => by rw [remouldref05_Values.l1, if_pos (by omega), if_pos (by omega), if_pos c, wrap64_id _ (by omega) (by omega)]; rfl) (ih (j + 1) (by omega) (fun i hi => ?_))
      by_cases e : i = j
      · subst e; exact c
      · exact hb i (by omega)
    · have e := insU_at v j xs (by omega) hb
      have hd : xs.drop j = rd xs (j : Int) :: xs.drop (j + 1) := by
        rw [List.drop_eq_getElem_cons hlt]
        congr 1
        simp [rd, hlt]
      rw [hd, insU] at e
      by_cases c2 : rd xs (j : Int) = v
      · rw [if_neg (by omega), if_pos c2.symm, ← hd, List.take_append_drop] at e
        rw [e] at hr
        exact Ev.step (fun k => by rw [remouldref05_Values.l1, if_pos (by omega), if_pos (by omega), if_neg c, if_pos c2, hw]) hr
      · rw [if_pos (by omega), ← hd] at e
        refine Ev.step (fun k => ?_) hr
        rw [remouldref05_Values.l1, if_pos (by omega), if_pos (by omega), if_neg c, if_neg c2, if_pos (by omega), Option.bind_some, if_pos (by simp; omega), Option.bind_some, if_pos (by simp; omega), Option.bind_some, Option.bind_some, if_pos (by simp; omega), hw, e]
        congr 1
        simp
theorem values_l0 (N : Nat) (h0 : 1 ≤ N) (hN : N ≤ 12) (l : List S46) (hl : l.length ≤ 41) (hE : EdgesIn N l) : ∀ d i : Nat, i + d = 2 ^ (N - 1) →
    Ev (fun k => remouldref05_Values.l0 k l (strs N) (valsTo N l i) (i : Int)) (valsTo N l (2 ^ (N - 1))) := by
  have hp : 2 ^ (N - 1) ≤ 2 ^ 11 := Nat.pow_le_pow_right (by omega) (by omega)
  have h3 : 2 ^ N = 2 ^ (N - 1) + 2 ^ (N - 1) := by
    obtain ⟨m, rfl⟩ : ∃ m, N = m + 1 := ⟨N - 1, by omega⟩
    rw [Nat.pow_succ]; simp; omega
  have hlen := strs_length N
  have hw : wrap64 (((strs N).length : Int) / 2) = ((2 ^ (N - 1) : Nat) : Int) := by rw [wrap64_id _ (by omega) (by omega), hlen, h3]; omega
  intro d
  induction d with
  | zero =>
    intro i hi
    obtain rfl : i = 2 ^ (N - 1) := by omega
    exact Ev.step (fun k => by rw [remouldref05_Values.l0, hw, if_neg (by omega)]) (Ev.const _)
  | succ d ih =>
    intro i hi
    have hlt : i < 2 ^ (N - 1) := by omega
    have hv := value_f N i l hl hE
    have hat := strs_at N i (by omega)
    have hvl := valsTo_length N l i
    refine Ev.step (fun k => by rw [remouldref05_Values.l0, hw, if_pos (by omega), if_pos (by omega), if_pos (by omega), hat]) (Ev.bind hv ?_)
    have ih' := ih (i + 1) (by omega)
    rw [valsTo_succ N l h0 hN i hlt] at ih'
    exact values_l1 l (strs N) (valsTo N l i) (by omega) i (valB N i l) _ (by omega) (by omega) ih' (valsTo N l i).length 0 (by omega) (fun i hi => by omega)
theorem values_f (N : Nat) (h0 : 1 ≤ N) (hN : N ≤ 12) (l : List S46) (hl : l.length ≤ 41) (hE : EdgesIn N l) : Ev (fun k => remouldref05_Values.f k N l) (valsTo N l (2 ^ N)) := by
  have h3 : 2 ^ N = 2 ^ (N - 1) + 2 ^ (N - 1) := by
    obtain ⟨m, rfl⟩ : ∃ m, N = m + 1 := ⟨N - 1, by omega⟩
    rw [Nat.pow_succ]; simp; omega
  have hv := values_l0 N h0 hN l hl hE (2 ^ (N - 1)) 0 (by omega)
  rw [h3, valsTo_all N l h0 (2 ^ (N - 1)) (by omega)]
  exact Ev.bind (all_f N (by omega) (by omega)) hv

def unAt (N t : Nat) (c : List Int) (i : Nat) : Bool := hasB N t (rd c (i : Int)) == hasB N t (rd c (((i + 1) % c.length : Nat) : Int))
theorem uncut_exists (N t : Nat) {l : List S46} {c : List Int} (h : CycIs l c) : (List.range c.length).any (unAt N t c) = true := by
  obtain ⟨h3, hodd, _, _⟩ := h
  obtain ⟨i, hi, he⟩ := cycle_uncut c.length hodd (fun i => hasB N t (rd c ((i % c.length : Nat) : Int))) (by simp)
  rw [List.any_eq_true]
  refine ⟨i, by simpa using hi, ?_⟩
  unfold unAt
  simp only [Nat.mod_eq_of_lt hi] at he
  rw [he]; simp
theorem nodup_sub {α : Type} [BEq α] [LawfulBEq α] : ∀ (ps qs : List α), ps.Nodup → (∀ p ∈ ps, p ∈ qs) → ps.length ≤ qs.length
  | [], _, _, _ => Nat.zero_le _
  | p :: ps, qs, h, hs => by
    rw [List.nodup_cons] at h
    have hm := hs p List.mem_cons_self
    have := nodup_sub ps (qs.erase p) h.2 (fun q hq => by
      refine (List.mem_erase_of_ne ?_).2 (hs q (List.mem_cons_of_mem _ hq))
      rintro rfl
      exact h.1 hq)
    have h2 := List.length_erase_of_mem hm
    have h3 := List.length_pos_of_mem hm
    rw [List.length_cons]
    omega
theorem disjB_iff (c : List Int) (us : List (Int × Int)) : disjB c us = true ↔ ∀ p ∈ endsB c, p ∉ us := by
  unfold disjB
  rw [Bool.not_eq_true', List.any_eq_false]
  constructor
  · intro h p hp hm
    exact h p hp (by simpa using hm)
  · intro h p hp hm
    exact h p hp (by simpa using hm)
theorem allB_cyc {N : Nat} {l : List S46} {c : List Int} (h : c ∈ allB N l) : CycIs l c ∧ 3 ≤ c.length ∧ c.length ≤ N ∧ c.length % 2 = 1 := by
  unfold allB oddSizes at h
  rw [List.mem_flatMap] at h
  obtain ⟨k, hk, hc⟩ := h
  rw [List.mem_map] at hk
  obtain ⟨i, hi, rfl⟩ := hk
  have hi' : i < (N - 1) / 2 := by simpa using hi
  have hl := cycles_mem_len (by omega) hc
  exact ⟨cycles_sound (by omega) (by omega) hc, by omega, by omega, by omega⟩
theorem ends_in2 {l : List S46} {c : List Int} (h : CycIs l c) : ∀ p ∈ endsB c, hasEdge l p.1 p.2 = true := by
  intro p hp
  rw [endsB_eq, List.mem_map] at hp
  obtain ⟨i, hi, rfl⟩ := hp
  have h1 := (h.2.2.2 i (by simpa using hi)).1
  rw [rd_getD, rd_getD] at h1
  exact h1
/-- Each cycle that is laid has an uncut edge of its own. -/
theorem laid_uncut (N t : Nat) (l : List S46) : ∀ (cs : List (List Int)) (us : List (Int × Int)), Laid us cs → (∀ c ∈ cs, CycIs l c) → ∃ ps : List (Int × Int), ps.length = cs.length ∧ ps.Nodup ∧ ∀ p ∈ ps, hasEdge l p.1 p.2 = true ∧ hasB N t p.1 = hasB N t p.2 ∧ p ∉ us
  | [], _, _, _ => ⟨[], rfl, List.nodup_nil, by simp⟩
  | c :: cs, us, ⟨h1, h2⟩, hc => by
    obtain ⟨ps, e1, e2, e3⟩ := laid_uncut N t l cs _ h2 (fun x hx => hc x (List.mem_cons_of_mem _ hx))
    have hcy := hc c List.mem_cons_self
    have hu := uncut_exists N t hcy
    rw [List.any_eq_true] at hu
    obtain ⟨i, hi, hb⟩ := hu
    have hm : endAt c i ∈ endsB c := by
      rw [endsB_eq]
      exact List.mem_map.2 ⟨i, hi, rfl⟩
    refine ⟨endAt c i :: ps, by simp [e1], List.nodup_cons.2 ⟨fun hp => ?_, e2⟩, fun p hp => ?_⟩
    · exact (e3 _ hp).2.2 (List.mem_append.2 (.inr hm))
    · rcases List.mem_cons.1 hp with rfl | hp
      · refine ⟨ends_in2 hcy _ hm, ?_, (disjB_iff _ _).1 h1 _ hm⟩
        unfold unAt at hb
        rw [rd_getD, rd_getD] at hb
        have hb' := eq_of_beq hb
        unfold endAt
        simp only
        split
        · exact hb'
        · exact hb'.symm
      · obtain ⟨a, b, d⟩ := e3 p hp
        exact ⟨a, b, fun hm2 => d (List.mem_append.2 (.inl hm2))⟩
theorem laid_bound (N t : Nat) (l : List S46) (cs : List (List Int)) (h1 : Laid [] cs) (h2 : ∀ c ∈ cs, CycIs l c) : cs.length ≤ l.countP fun e => !cutB N t e := by
  obtain ⟨ps, e1, e2, e3⟩ := laid_uncut N t l cs [] h1 h2
  rw [← e1, List.countP_eq_length_filter]
  have := nodup_sub ps ((l.filter fun e => !cutB N t e).map fun e => (e.f0, e.f1)) e2 (fun p hp => by
    obtain ⟨a, b, _⟩ := e3 p hp
    obtain ⟨e, he, h3, h4⟩ := (hasEdge_iff l p.1 p.2).1 a
    refine List.mem_map.2 ⟨e, List.mem_filter.2 ⟨he, ?_⟩, ?_⟩
    · unfold cutB
      rw [h3, h4, b]; simp
    · rw [h3, h4])
  rwa [List.length_map] at this
end Go.Proofs.Ytkefmlhkejoknab.L
