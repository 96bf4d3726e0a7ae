/- Plain law: what BeltBound leans on (lines of P1 to P35). -/
import Derived.Test.YtkefmlhkejoknaaL32
import Derived.Test.YtkefmlhkejoknaaXApart
import Derived.Test.YtkefmlhkejoknaaXTame
namespace Go.Proofs.Ytkefmlhkejoknaa.L
set_option linter.unusedVariables false
set_option linter.unusedSimpArgs false
open Go.RowKit Go.Proofs.YtkefmlhkejoknaaW.PrintWords Go.Proofs.YtkefmlhkejoknaaW.PrintLast Go.Proofs.YtkefmlhkejoknaaW.PrintMore

/-- From some figure on, it is r. -/
def Ev {α : Type} (g : Nat → Option α) (r : α) : Prop := ∃ K, ∀ k, K ≤ k → g k = some r
theorem Ev.const {α : Type} (r : α) : Ev (fun _ => some r) r := ⟨0, fun _ _ => rfl⟩
theorem Ev.step {α : Type} {g h : Nat → Option α} {r : α} (he : ∀ k, g (k + 1) = h k) (hh : Ev h r) : Ev g r := by
  obtain ⟨K, hK⟩ := hh
  refine ⟨K + 1, fun k hk => ?_⟩
  obtain ⟨j, rfl⟩ : ∃ j, k = j + 1 := ⟨k - 1, by omega⟩
  rw [he]; exact hK j (by omega)
theorem Ev.bind {α β : Type} {g : Nat → Option α} {h : Nat → α → Option β} {a : α} {b : β} (hg : Ev g a) (hh : Ev (fun k => h k a) b) : Ev (fun k => (g k).bind (h k)) b := by
  obtain ⟨K, hK⟩ := hg
  obtain ⟨M, hM⟩ := hh
  refine ⟨K + M, fun k hk => ?_⟩
  show (g k).bind (h k) = some b
  rw [hK k (by omega)]
  exact hM k (by omega)
theorem Ev.congr {α : Type} {g h : Nat → Option α} {r : α} (he : ∀ k, g k = h k) (hh : Ev h r) : Ev g r := by
  obtain ⟨K, hK⟩ := hh
  exact ⟨K, fun k hk => (he k).trans (hK k hk)⟩
theorem Ev.get {α : Type} {g : Nat → Option α} {r : α} (h : Ev g r) : ∃ k, g k = some r := by
  obtain ⟨K, hK⟩ := h
  exact ⟨K, hK K (Nat.le_refl _)⟩
theorem wrap64_id (x : Int) (h1 : -9223372036854775808 ≤ x) (h2 : x ≤ 9223372036854775807) : wrap64 x = x := by
  unfold wrap64; omega

/-- The edge at a place. -/
theorem rd_at (l : List S49) (i : Nat) (h : i < l.length) : rd_T49 l (i : Int) = l[i] := by simp [rd_T49, List.getElem?_eq_getElem h]

/-- The sides of the first half are the proper ones. -/
theorem proper_half (N s : Nat) (h0 : 1 ≤ N) (hs : s < 2 ^ (N - 1)) : properB (N : Int) s = true := by
  have e : ((N : Int) - 1 - 0).toNat = N - 1 := by omega
  rw [properB, hasB, e, Nat.testBit_lt_two_pow hs]; rfl
theorem proper_not (N s : Nat) (h0 : 1 ≤ N) (h1 : 2 ^ (N - 1) ≤ s) (h2 : s < 2 ^ N) : properB (N : Int) s = false := by
  have e : ((N : Int) - 1 - 0).toNat = N - 1 := by omega
  obtain ⟨t, rfl⟩ : ∃ t, s = 2 ^ (N - 1) + t := ⟨s - 2 ^ (N - 1), by omega⟩
  have h3 : 2 ^ N = 2 ^ (N - 1) + 2 ^ (N - 1) := by
    obtain ⟨m, rfl⟩ : ∃ m, N = m + 1 := ⟨N - 1, by omega⟩
    rw [Nat.pow_succ]; simp; omega
  rw [properB, hasB, e, Nat.testBit_two_pow_add_eq, Nat.testBit_lt_two_pow (by omega)]; rfl
theorem ints_l0 (a b : List Int) (hl : a.length = b.length) (hs : a.length ≤ 1000000) : ∀ d i : Nat, i + d = a.length → a.take i = b.take i → Ev (fun k => remouldlaw05_ints.l0 k a b (i : Int)) (decide (a = b)) := by
  intro d
  induction d with
  | zero =>
    intro i hi h
    obtain rfl : i = a.length := by omega
    rw [List.take_of_length_le (Nat.le_refl _), List.take_of_length_le (by omega)] at h
    rw [decide_eq_true h]
    exact Ev.step (fun k => by rw [remouldlaw05_ints.l0, if_neg (by omega)]) (Ev.const true)
  | succ d ih =>
    intro i hi h
    have hia : i < a.length := by omega
    have hib : i < b.length := by omega
    have ea : rd a (i : Int) = a[i] := by simp [rd, List.getElem?_eq_getElem hia]
    have eb : rd b (i : Int) = b[i] := by simp [rd, List.getElem?_eq_getElem hib]
    by_cases c : rd a (i : Int) = rd b (i : Int)
    · refine Ev.step (fun k => by rw [remouldlaw05_ints.l0, if_pos (by omega), if_pos (by omega), if_pos (by omega), if_pos c, wrap64_id _ (by omega) (by omega)]) ?_
      refine ih (i + 1) (by omega) ?_
      rw [List.take_succ_eq_append_getElem hia, List.take_succ_eq_append_getElem hib, h, ← ea, ← eb, c]
    · have hne : a ≠ b := by
        intro e; subst e; exact c rfl
      rw [decide_eq_false hne]
      exact Ev.step (fun k => by rw [remouldlaw05_ints.l0, if_pos (by omega), if_pos (by omega), if_pos (by omega), if_neg c]) (Ev.const false)
theorem ints_f (a b : List Int) (hs : a.length ≤ 1000000) : Ev (fun k => remouldlaw05_ints.f k a b) (decide (a = b)) := by
  by_cases hl : a.length = b.length
  · exact Ev.congr (fun k => by rw [remouldlaw05_ints.f, if_pos (by omega)]; rfl) (ints_l0 a b hl hs a.length 0 (by omega) rfl)
  · rw [decide_eq_false (fun e => hl (by rw [e]))]
    exact Ev.congr (fun k => by rw [remouldlaw05_ints.f, if_neg (by omega)]) (Ev.const false)

def tri : List S49 := [⟨0, 1, 1⟩, ⟨0, 2, 1⟩, ⟨1, 2, 1⟩]
theorem tri_best : belt_Best.f 3 tri = some (⟨#[48, 48, 49]⟩, 2, 0) := by rfl
theorem tri_count : belt_Count.f 3 tri = some (3, 0) := by rfl
theorem tri_odd : belt_Odd.f 3 tri = some ([0, 1, 2], 0) := by rfl
theorem tri_climb : belt_Climb.f 3 tri ⟨#[48, 48, 48]⟩ = some (⟨#[49, 48, 48]⟩, 1, 0) := by rfl

theorem awake_f : Ev (fun k => remouldlaw05_awake.f k) true := by
  have hi := ints_f [0, 1, 2] [0, 1, 2] (by simp)
  refine Ev.congr (h := fun k => (remouldlaw05_ints.f k [0, 1, 2] [0, 1, 2]).bind fun t150 => (if t150 = true then remouldlaw05_awake.j0 k false else remouldlaw05_awake.j0 k true)) (fun k => ?_) ?_
  · unfold remouldlaw05_awake.f remouldlaw05_triangle.f
    simp only [Option.bind_some]
    rw [show ([⟨0, 1, 1⟩, ⟨0, 2, 1⟩, ⟨1, 2, 1⟩] : List S49) = tri from rfl, tri_best, tri_count, tri_odd, tri_climb]
    simp only [Option.bind_some, ByteArray.toList_eq]
    rfl
  · refine Ev.bind hi ?_
    exact Ev.step (fun k => rfl) (Ev.const true)

/-- Every edge is cut. -/
def allCut (n : Int) (l : List S49) (s : Nat) : Bool := l.all fun e => cutB n s e
theorem has_flip (N t : Nat) (ht : t < 2 ^ N) (v : Int) (h0 : 0 ≤ v) (h1 : v < N) : hasB N (2 ^ N - (t + 1)) v = !hasB N t v := by
  rw [hasB, Nat.testBit_two_pow_sub_succ ht, decide_eq_true (by omega), Bool.true_and, hasB]
theorem mem_edge {n : Int} {l : List S49} (hE : EdgesIn n l) {e : S49} (he : e ∈ l) : 0 ≤ e.f0 ∧ e.f0 < n ∧ 0 ≤ e.f1 ∧ e.f1 < n := by
  obtain ⟨i, hi, rfl⟩ := List.getElem_of_mem he
  have := hE i hi
  rw [rd_at l i hi] at this
  exact ⟨this.1, this.2.1, this.2.2.1, this.2.2.2.1⟩
theorem allCut_flip (N t : Nat) (ht : t < 2 ^ N) (l : List S49) (hE : EdgesIn N l) (h : allCut N l t = true) : allCut N l (2 ^ N - (t + 1)) = true := by
  unfold allCut at h ⊢
  rw [List.all_eq_true] at h ⊢
  intro e he
  have hb := mem_edge hE he
  have := h e he
  rw [cutB] at this ⊢
  rw [has_flip N t ht _ hb.1 hb.2.1, has_flip N t ht _ hb.2.2.1 hb.2.2.2]
  cases h1 : hasB N t e.f0 <;> cases h2 : hasB N t e.f1 <;> rw [h1, h2] at this <;> simp_all
theorem even_all (N : Nat) (h0 : 1 ≤ N) (l : List S49) (hE : EdgesIn N l) : evenB N l = (List.range (2 ^ N)).find? fun s => allCut N l s := by
  have h3 : 2 ^ N = 2 ^ (N - 1) + 2 ^ (N - 1) := by
    obtain ⟨m, rfl⟩ : ∃ m, N = m + 1 := ⟨N - 1, by omega⟩
    rw [Nat.pow_succ]; simp; omega
  have hsmall : ∀ t, t < 2 ^ N → allCut N l t = true → ∃ u, u ≤ t ∧ u < 2 ^ (N - 1) ∧ allCut N l u = true := by
    intro t ht hc
    by_cases c : t < 2 ^ (N - 1)
    · exact ⟨t, Nat.le_refl _, c, hc⟩
    · exact ⟨2 ^ N - (t + 1), by omega, by omega, allCut_flip N t ht l hE hc⟩
  unfold evenB
  rw [Int.toNat_natCast]
  cases hf : (List.range (2 ^ N)).find? (fun s => properB N s && l.all fun e => cutB N s e) with
  | none =>
    rw [List.find?_eq_none] at hf
    symm
    rw [List.find?_eq_none]
    intro t ht hc
    obtain ⟨u, hu, hu2, hc2⟩ := hsmall t (by simpa using ht) hc
    have := hf u (by simp; omega)
    rw [proper_half N u h0 hu2, Bool.true_and] at this
    exact this hc2
  | some s =>
    rw [List.find?_range_eq_some] at hf
    obtain ⟨h1, h2, h4⟩ := hf
    simp only [Bool.and_eq_true] at h1
    symm
    rw [List.find?_range_eq_some]
    refine ⟨h1.2, h2, fun t ht => ?_⟩
    by_cases hc : allCut N l t = true
    · exfalso
      have hs : s < 2 ^ (N - 1) := by
        by_cases c : s < 2 ^ (N - 1)
        · exact c
        · have := proper_not N s h0 (by omega) (by simpa using h2)
          rw [this] at h1; cases h1.1
      have := h4 t ht
      rw [proper_half N t h0 (by omega)] at this
      rw [allCut] at hc
      rw [hc] at this
      cases this
    · simpa using hc

/-- What is known of the edges of a graph. -/
def EdgesNe (N : Nat) (l : List S49) : Prop := ∀ e ∈ l, 0 ≤ e.f0 ∧ e.f0 < N ∧ 0 ≤ e.f1 ∧ e.f1 < N ∧ e.f0 ≠ e.f1
theorem edgesNe_of {N : Nat} {l : List S49} (h : graphOk N l = true) : EdgesNe N l := by
  intro e he
  obtain ⟨i, hi, rfl⟩ := List.getElem_of_mem he
  have := (edgeOk_iff ..).1 (graphOk_edge h i hi).1
  rw [rd_at l i hi] at this
  omega
theorem Tr.append {J : Int → Int → Prop} {k m : Nat} {a b c : Int} (h1 : Tr J k a b) (h2 : Tr J m b c) : Tr J (k + m) a c := by
  obtain ⟨p, p0, pk, hp⟩ := h1
  obtain ⟨q, q0, qm, hq⟩ := h2
  refine ⟨fun i => if i ≤ k then p i else q (i - k), ?_, ?_, fun i hi => ?_⟩
  · simp [p0]
  · by_cases hm : m = 0
    · subst hm; simp only [Nat.add_zero, Nat.le_refl, if_true]; rw [pk, ← q0]; exact qm
    · show (if k + m ≤ k then p (k + m) else q (k + m - k)) = c
      rw [if_neg (by omega), show k + m - k = m by omega]; exact qm
  · by_cases h1 : i + 1 ≤ k
    · simp only [show i ≤ k by omega, h1, if_true]; exact hp i (by omega)
    · by_cases h2 : i ≤ k
      · obtain rfl : i = k := by omega
        simp only [Nat.le_refl, if_true, h1, if_false]
        rw [pk, ← q0, show i + 1 - i = 0 + 1 by omega]
        exact hq 0 (by omega)
      · simp only [h1, h2, if_false]
        rw [show i + 1 - k = i - k + 1 by omega]
        exact hq (i - k) (by omega)
theorem Tr.rev {J : Int → Int → Prop} (hs : ∀ a b, J a b → J b a) {k : Nat} {a b : Int} (h : Tr J k a b) : Tr J k b a := by
  obtain ⟨p, p0, pk, hp⟩ := h
  refine ⟨fun i => p (k - i), by simpa using pk, by simpa using p0, fun i hi => ?_⟩
  have := hp (k - (i + 1)) (by omega)
  rw [show k - (i + 1) + 1 = k - i by omega] at this
  exact hs _ _ this
theorem Tr.sub {J : Int → Int → Prop} {k : Nat} {p : Nat → Int} (hp : ∀ i, i < k → J (p i) (p (i + 1))) (i j : Nat) (hij : i ≤ j) (hj : j ≤ k) : Tr J (j - i) (p i) (p j) :=
  ⟨fun t => p (i + t), rfl, by show p (i + (j - i)) = p j; rw [show i + (j - i) = j by omega], fun t ht => hp (i + t) (by omega)⟩

theorem least (P : Nat → Prop) (h : ∃ k, P k) : ∃ k, P k ∧ ∀ j, j < k → ¬ P j := by
  obtain ⟨k, hk⟩ := h
  induction k using Nat.strongRecOn with
  | ind k ih =>
    by_cases c : ∃ j, j < k ∧ P j
    · obtain ⟨j, hj, hp⟩ := c
      exact ih j hj hp
    · exact ⟨k, hk, fun j hj hp => c ⟨j, hj, hp⟩⟩

/-- The place of the smallest one of k numbers. -/
theorem argmin (q : Nat → Int) (k : Nat) (hk : 0 < k) : ∃ m, m < k ∧ ∀ i, i < k → q m ≤ q i := by
  induction k with
  | zero => omega
  | succ k ih =>
    by_cases hz : k = 0
    · subst hz
      refine ⟨0, by omega, fun i hi => ?_⟩
      obtain rfl : i = 0 := by omega
      exact Int.le_refl _
    · obtain ⟨m, hm, h⟩ := ih (by omega)
      by_cases c : q m ≤ q k
      · exact ⟨m, by omega, fun i hi => by
          by_cases e : i = k
          · subst e; exact c
          · exact h i (by omega)⟩
      · exact ⟨k, by omega, fun i hi => by
          by_cases e : i = k
          · subst e; exact Int.le_refl _
          · have := h i (by omega); omega⟩

/-- No odd closed walk: two colors. -/
theorem two_colors {J : Int → Int → Prop} (hs : ∀ a b, J a b → J b a) (hb : ∀ a b, J a b → 0 ≤ a) (hno : ∀ k a, k % 2 = 1 → ¬ Tr J k a a) :
    ∃ col : Int → Bool, ∀ a b, J a b → col a ≠ col b := by
  classical
  -- the smallest number from which v is reached
  let R : Int → Nat → Prop := fun v u => ∃ k, Tr J k (u : Int) v
  let col : Int → Bool := fun v => decide (∃ u k, R v u ∧ (∀ j, j < u → ¬ R v j) ∧ k % 2 = 0 ∧ Tr J k (u : Int) v)
  refine ⟨col, fun a b hab => ?_⟩
  have ha0 := hb a b hab
  obtain ⟨A, rfl⟩ := Int.eq_ofNat_of_zero_le ha0
  have hRb : ∀ u, R (A : Int) u → R b u := fun u ⟨k, h⟩ => ⟨k + 1, h.append (Tr.one hab)⟩
  have hRa : ∀ u, R b u → R (A : Int) u := fun u ⟨k, h⟩ => ⟨k + 1, h.append (Tr.one (hs _ _ hab))⟩
  obtain ⟨u, hu, hmin⟩ := least (R (A : Int)) ⟨A, 0, Tr.nil J A⟩
  have hmin' : ∀ j, j < u → ¬ R b j := fun j hj h => hmin j hj (hRa j h)
  have huniq : ∀ v, R v u → (∀ j, j < u → ¬ R v j) → ∀ u', R v u' → (∀ j, j < u' → ¬ R v j) → u' = u := fun v h1 h2 u' h3 h4 => by
    rcases Nat.lt_trichotomy u' u with h | h | h
    · exact absurd h3 (h2 u' h)
    · exact h
    · exact absurd h1 (h4 u h)
  obtain ⟨k, hk⟩ := hu
  have hkb : Tr J (k + 1) u b := hk.append (Tr.one hab)
  by_cases hpar : k % 2 = 0
  · have h1 : col (A : Int) = true := decide_eq_true ⟨u, k, ⟨k, hk⟩, hmin, hpar, hk⟩
    have h2 : col b = false := by
      apply decide_eq_false
      rintro ⟨u', k', hr', hm', hp', hw'⟩
      have := huniq b ⟨_, hkb⟩ hmin' u' hr' hm'
      subst this
      exact hno (k + 1 + k') u' (by omega) (hkb.append (hw'.rev hs))
    rw [h1, h2]; simp
  · have h1 : col (A : Int) = false := by
      apply decide_eq_false
      rintro ⟨u', k', hr', hm', hp', hw'⟩
      have := huniq (A : Int) ⟨_, hk⟩ hmin u' hr' hm'
      subst this
      exact hno (k + k') u' (by omega) (hk.append (hw'.rev hs))
    have h2 : col b = true := decide_eq_true ⟨u, k + 1, ⟨_, hkb⟩, hmin', by omega, hkb⟩
    rw [h1, h2]; simp

/-- A simple odd cycle, written from its smallest vertex in the smaller direction. -/
def OddCyc (J : Int → Int → Prop) (k : Nat) (q : Nat → Int) : Prop :=
  k % 2 = 1 ∧ 3 ≤ k ∧ (∀ i, J (q i) (q (i + 1))) ∧ (∀ i, q (i + k) = q i) ∧ (∀ i j, i < j → j < k → q i ≠ q j) ∧ (∀ i, 0 < i → i < k → q 0 < q i) ∧ q 1 < q (k - 1)

theorem period_mul {q : Nat → Int} {k : Nat} (h : ∀ i, q (i + k) = q i) (i m : Nat) : q (i + k * m) = q i := by
  induction m with
  | zero => rfl
  | succ m ih => rw [Nat.mul_succ, ← Nat.add_assoc, h, ih]
theorem period_mod {q : Nat → Int} {k : Nat} (h : ∀ i, q (i + k) = q i) (i : Nat) : q (i % k) = q i := by
  have := period_mul h (i % k) (i / k)
  rw [Nat.mod_add_div] at this
  exact this.symm
theorem period_inj {q : Nat → Int} {k : Nat} (hk : 0 < k) (h : ∀ i, q (i + k) = q i) (hd : ∀ i j, i < j → j < k → q i ≠ q j) (i j : Nat) (he : q i = q j) : i % k = j % k := by
  rw [← period_mod h i, ← period_mod h j] at he
  have h1 := Nat.mod_lt i hk
  have h2 := Nat.mod_lt j hk
  rcases Nat.lt_trichotomy (i % k) (j % k) with c | c | c
  · exact absurd he (hd _ _ c h2)
  · exact c
  · exact absurd he.symm (hd _ _ c h1)

/-- An odd closed walk: a simple odd cycle. -/
theorem odd_cycle {J : Int → Int → Prop} (hs : ∀ a b, J a b → J b a) (hi : ∀ a, ¬ J a a) (h : ∃ k a, k % 2 = 1 ∧ Tr J k a a) : ∃ k q, OddCyc J k q := by
  obtain ⟨k, ⟨a, hk, p, p0, pk, hp⟩, hmin⟩ := least (fun k => ∃ a, k % 2 = 1 ∧ Tr J k a a) h
  have hk3 : 3 ≤ k := by
    by_cases c : k = 1
    · subst c
      exfalso
      have := hp 0 (by omega)
      rw [p0, pk] at this
      exact hi a this
    · omega
  have hd : ∀ i j, i < j → j < k → p i ≠ p j := by
    intro i j hij hj he
    have t1 : Tr J (j - i) (p i) (p i) := by
      have := Tr.sub hp i j (by omega) (by omega)
      rw [← he] at this
      exact this
    have t2 : Tr J (i + (k - j)) a a := by
      have u1 := Tr.sub hp 0 i (by omega) (by omega)
      have u2 := Tr.sub hp j k (by omega) (by omega)
      rw [← he, pk] at u2
      rw [p0] at u1
      exact u1.append u2
    by_cases c : (j - i) % 2 = 1
    · exact hmin _ (by omega) ⟨_, c, t1⟩
    · exact hmin _ (by omega) ⟨_, by omega, t2⟩
  -- around and around
  have P1 : ∃ P : Nat → Int, (∀ i, P (i + k) = P i) ∧ (∀ i, J (P i) (P (i + 1))) ∧ (∀ i j, i < j → j < k → P i ≠ P j) := by
    refine ⟨fun i => p (i % k), fun i => by simp, fun i => ?_, fun i j hij hj => ?_⟩
    · have hlt := Nat.mod_lt i (show 0 < k by omega)
      have := hp (i % k) hlt
      by_cases c : i % k + 1 = k
      · have e : (i + 1) % k = 0 := by rw [← Nat.mod_add_mod, c, Nat.mod_self]
        show J (p (i % k)) (p ((i + 1) % k))
        rw [e, p0, ← pk, ← c]
        rw [c]; rw [c] at this; exact this
      · have e : (i + 1) % k = i % k + 1 := by rw [← Nat.mod_add_mod, Nat.mod_eq_of_lt (by omega)]
        show J (p (i % k)) (p ((i + 1) % k))
        rw [e]; exact this
    · show p (i % k) ≠ p (j % k)
      rw [Nat.mod_eq_of_lt (by omega), Nat.mod_eq_of_lt hj]
      exact hd i j hij hj
  obtain ⟨P, Pk, PJ, Pd⟩ := P1
  obtain ⟨m, hm, hmm⟩ := argmin P k (by omega)
  -- from the smallest one
  have Q1 : ∃ Q : Nat → Int, (∀ i, Q (i + k) = Q i) ∧ (∀ i, J (Q i) (Q (i + 1))) ∧ (∀ i j, i < j → j < k → Q i ≠ Q j) ∧ (∀ i, 0 < i → i < k → Q 0 < Q i) := by
    have hd' : ∀ i j, i < j → j < k → P (m + i) ≠ P (m + j) := fun i j hij hj he => by
      have := period_inj (by omega) Pk Pd _ _ he
      have h1 := Nat.sub_mod_eq_zero_of_mod_eq this.symm
      rw [show m + j - (m + i) = j - i by omega, Nat.mod_eq_of_lt (by omega)] at h1
      omega
    refine ⟨fun i => P (m + i), fun i => by show P (m + (i + k)) = _; rw [← Nat.add_assoc, Pk], fun i => PJ (m + i), hd', fun i h0 hik => ?_⟩
    have h1 : P m ≤ P (m + i) := by
      rw [← period_mod Pk (m + i)]
      exact hmm _ (Nat.mod_lt _ (by omega))
    have h2 := hd' 0 i h0 hik
    simp only [Nat.add_zero] at h2 ⊢
    omega
  obtain ⟨Q, Qk, QJ, Qd, Q0⟩ := Q1
  by_cases c : Q 1 < Q (k - 1)
  · exact ⟨k, Q, hk, hk3, QJ, Qk, Qd, Q0, c⟩
  · -- the other direction
    have hne := Qd 1 (k - 1) (by omega) (by omega)
    have back : ∀ i, i ≤ k → Q ((k - 1) * i) = Q (k - i) := by
      intro i hik
      have e : (k - 1) * i + k * 1 = (k - i) + k * i := by
        have : (k - 1) * i = k * i - i := by rw [Nat.sub_mul, Nat.one_mul]
        have : i ≤ k * i := Nat.le_mul_of_pos_left i (by omega)
        omega
      rw [← period_mul Qk ((k - 1) * i) 1, e, period_mul Qk]
    refine ⟨k, fun i => Q ((k - 1) * i), hk, hk3, fun i => ?_, fun i => ?_, fun i j hij hj => ?_, fun i h0 hik => ?_, ?_⟩
    · show J (Q ((k - 1) * i)) (Q ((k - 1) * (i + 1)))
      have := QJ ((k - 1) * (i + 1))
      rw [show (k - 1) * (i + 1) + 1 = (k - 1) * i + k by rw [Nat.mul_succ]; omega, Qk] at this
      exact hs _ _ this
    · show Q ((k - 1) * (i + k)) = Q ((k - 1) * i)
      rw [Nat.mul_add, Nat.mul_comm (k - 1) k, period_mul Qk]
    · show Q ((k - 1) * i) ≠ Q ((k - 1) * j)
      rw [back i (by omega), back j (by omega)]
      by_cases hz : i = 0
      · subst hz
        rw [show k - 0 = 0 + k by omega, Qk]
        have := Q0 (k - j) (by omega) (by omega)
        omega
      · exact fun e => Qd (k - j) (k - i) (by omega) (by omega) e.symm
    · show Q ((k - 1) * 0) < Q ((k - 1) * i)
      rw [back i (by omega)]
      exact Q0 _ (by omega) (by omega)
    · show Q ((k - 1) * 1) < Q ((k - 1) * (k - 1))
      rw [back 1 (by omega), back (k - 1) (by omega), show k - (k - 1) = 1 by omega]
      omega

theorem colors_or_cycle {J : Int → Int → Prop} (hs : ∀ a b, J a b → J b a) (hi : ∀ a, ¬ J a a) (hb : ∀ a b, J a b → 0 ≤ a) :
    (∃ col : Int → Bool, ∀ a b, J a b → col a ≠ col b) ∨ ∃ k q, OddCyc J k q := by
  by_cases c : ∃ k a, k % 2 = 1 ∧ Tr J k a a
  · exact .inr (odd_cycle hs hi c)
  · exact .inl (two_colors hs hb (fun k a h1 h2 => c ⟨k, a, h1, h2⟩))

/-- Different numbers below n are at most n. -/
theorem nodup_le : ∀ (n : Nat) (xs : List Int), xs.Nodup → (∀ x ∈ xs, 0 ≤ x ∧ x < n) → xs.length ≤ n := by
  intro n
  induction n with
  | zero =>
    intro xs _ h
    cases xs with
    | nil => simp
    | cons a l => have := h a (by simp); omega
  | succ n ih =>
    intro xs hd h
    have h1 := ih (xs.erase (n : Int)) (hd.erase _) (fun x hx => by
      rw [List.Nodup.mem_erase_iff hd] at hx
      have := h x hx.2
      omega)
    rw [List.length_erase] at h1
    split at h1 <;> omega
/-- An odd cycle has no two colors. -/
theorem cycle_uncut (k : Nat) (hk : k % 2 = 1) (c : Nat → Bool) (hc : c k = c 0) : ∃ i, i < k ∧ c i = c (i + 1) := by
  by_cases h : ∃ i, i < k ∧ c i = c (i + 1)
  · exact h
  · exfalso
    have h' : ∀ i, i < k → c (i + 1) = !c i := fun i hi => by
      have : ¬ c i = c (i + 1) := fun e => h ⟨i, hi, e⟩
      cases h1 : c i <;> cases h2 : c (i + 1) <;> simp_all
    have : ∀ i, i ≤ k → c i = (c 0 ^^ decide (i % 2 = 1)) := by
      intro i
      induction i with
      | zero => intro _; simp
      | succ i ih =>
        intro hi
        rw [h' i (by omega), ih (by omega)]
        by_cases e : i % 2 = 1
        · rw [decide_eq_true e, decide_eq_false (by omega)]; cases c 0 <;> rfl
        · rw [decide_eq_false e, decide_eq_true (by omega)]; cases c 0 <;> rfl
    have := this k (Nat.le_refl _)
    rw [hc, decide_eq_true hk] at this
    cases h0 : c 0 <;> rw [h0] at this <;> cases this

/-- The edges run upwards, within the vertices. -/
def UpIn (n : Int) (l : List S49) : Prop := ∀ e ∈ l, 0 ≤ e.f0 ∧ e.f0 < e.f1 ∧ e.f1 < n
theorem JB_irrefl {n : Int} {l : List S49} (hU : UpIn n l) (a : Int) : ¬ JB l a a := by
  rw [JB_iff]
  rintro ⟨e, he, ⟨h0, h1, _⟩ | ⟨h0, h1, _⟩⟩ <;> have := hU e he <;> omega
theorem JB_in {n : Int} {l : List S49} (hU : UpIn n l) (a b : Int) (h : JB l a b) : 0 ≤ a ∧ a < n := by
  rw [JB_iff] at h
  obtain ⟨e, he, ⟨h0, h1, _⟩ | ⟨h0, h1, _⟩⟩ := h <;> have := hU e he <;> omega

/-- A number with given bits. -/
def bitsN (f : Nat → Bool) : Nat → Nat
  | 0 => 0
  | k + 1 => if f k then 2 ^ k + bitsN f k else bitsN f k
theorem bitsN_lt (f : Nat → Bool) (k : Nat) : bitsN f k < 2 ^ k := by
  induction k with
  | zero => simp [bitsN]
  | succ k ih =>
    rw [bitsN, Nat.pow_succ]
    split <;> omega
theorem bitsN_test (f : Nat → Bool) (k i : Nat) (h : i < k) : (bitsN f k).testBit i = f i := by
  induction k with
  | zero => omega
  | succ k ih =>
    rw [bitsN]
    by_cases e : i = k
    · subst e
      cases c : f i
      · rw [if_neg (by decide)]; exact Nat.testBit_lt_two_pow (bitsN_lt f i)
      · rw [if_pos rfl, Nat.testBit_two_pow_add_eq, Nat.testBit_lt_two_pow (bitsN_lt f i)]; rfl
    · rw [← ih (by omega)]
      split
      · exact Nat.testBit_two_pow_add_gt (by omega) _
      · rfl
/-- Two colors are a side that cuts all edges. -/
theorem colors_cut {N : Nat} {l : List S49} (hU : UpIn N l) (col : Int → Bool) (hc : ∀ a b, JB l a b → col a ≠ col b) : ∃ s, s < 2 ^ N ∧ allCut N l s = true := by
  have hh : ∀ v : Int, 0 ≤ v → v < N → hasB N (bitsN (fun i => col ((N : Int) - 1 - (i : Int))) N) v = col v := by
    intro v h0 h1
    rw [hasB, bitsN_test _ _ _ (by omega)]
    congr 1; omega
  refine ⟨bitsN (fun i => col ((N : Int) - 1 - (i : Int))) N, bitsN_lt _ _, ?_⟩
  rw [allCut, List.all_eq_true]
  intro e he
  have hu := hU e he
  rw [cutB, hh _ (by omega) (by omega), hh _ (by omega) (by omega), bne_iff_ne]
  exact hc _ _ ((JB_iff _ _ _).2 ⟨e, he, .inl ⟨rfl, rfl, by omega⟩⟩)

theorem map_getLast (q : Nat → Int) (j : Nat) (d : Int) : ((List.range (j + 1)).map q).getLastD d = q j := by
  rw [List.range_succ, List.map_append]; simp
theorem map_head (q : Nat → Int) (j : Nat) (d : Int) : ((List.range (j + 1)).map q).headD d = q 0 := by
  rw [List.range_succ_eq_map]; simp
/-- A simple odd cycle is found. -/
theorem cyc_found {N : Nat} {l : List S49} (hU : UpIn N l) {k : Nat} {q : Nat → Int} (h : OddCyc (JB l) k q) : ∀ d j : Nat, j + d + 1 = k → (List.range k).map q ∈ cycB N l k d ((List.range (j + 1)).map q) := by
  obtain ⟨hk, hk3, hJ, hp, hd, h0, h1⟩ := h
  intro d
  induction d with
  | zero =>
    intro j hj
    obtain rfl : k = j + 1 := by omega
    rw [cycB, if_neg]
    · simp
    · rw [map_getLast, map_head]
      have e1 : ((List.range (j + 1)).map q).getD 1 0 = q 1 := by
        rw [List.getD_eq_getElem?_getD, List.getElem?_map, List.getElem?_range (by omega)]; rfl
      have e2 : joinedB l (q 0) (q j) = true := by
        have := hJ j
        rw [show q (j + 1) = q 0 by have := hp 0; rwa [Nat.zero_add] at this] at this
        exact JB_symm _ _ _ this
      rw [e1, e2]
      simp only [show j + 1 - 1 = j by omega] at h1
      simp
      omega
  | succ d ih =>
    intro j hj
    rw [cycB, List.mem_flatMap]
    have hin := JB_in hU _ _ (hJ (j + 1))
    have hgt := h0 (j + 1) (by omega) (by omega)
    have hin0 := JB_in hU _ _ (hJ 0)
    refine ⟨q (j + 1), ?_, ?_⟩
    · rw [List.mem_map, map_head]
      exact ⟨(q (j + 1) - q 0 - 1).toNat, by rw [List.mem_range]; omega, by omega⟩
    · rw [map_getLast, if_pos]
      · have := ih (j + 1) (by omega)
        rwa [List.range_succ, List.map_append] at this
      · rw [Bool.and_eq_true]
        refine ⟨hJ j, ?_⟩
        rw [Bool.not_eq_true', Bool.eq_false_iff]
        intro hm
        rw [List.contains_iff_mem, List.mem_map] at hm
        obtain ⟨i, hi, he⟩ := hm
        rw [List.mem_range] at hi
        exact hd i (j + 1) hi (by omega) he
theorem odd_le {N : Nat} {l : List S49} (hU : UpIn N l) {k : Nat} {q : Nat → Int} (h : OddCyc (JB l) k q) : k ≤ N := by
  obtain ⟨hk, hk3, hJ, hp, hd, h0, h1⟩ := h
  have := nodup_le N ((List.range k).map q) (by
    rw [List.Nodup, List.pairwise_map]
    refine List.Pairwise.imp_of_mem ?_ (List.pairwise_lt_range)
    intro a b ha hb hab
    exact hd a b hab (by simpa using hb)) (fun x hx => by
    rw [List.mem_map] at hx
    obtain ⟨i, _, rfl⟩ := hx
    exact JB_in hU _ _ (hJ i))
  simpa using this
theorem cycles_found {N : Nat} {l : List S49} (hU : UpIn N l) {k : Nat} {q : Nat → Int} (h : OddCyc (JB l) k q) : (List.range k).map q ∈ cyclesB N l k := by
  have h3 : 3 ≤ k := h.2.1
  have hin := JB_in hU _ _ (h.2.2.1 0)
  have := cyc_found hU h (k - 1) 0 (by omega)
  rw [cyclesB, List.mem_flatMap]
  refine ⟨(q 0).toNat, by rw [List.mem_range]; omega, ?_⟩
  have e : ((q 0).toNat : Int) = q 0 := by omega
  rw [e]
  exact this
/-- Without a side that cuts every edge there is an odd cycle. -/
theorem odd_exists {N : Nat} {l : List S49} (hU : UpIn N l) (hno : ∀ s, s < 2 ^ N → allCut N l s = false) : ∃ k, k % 2 = 1 ∧ 3 ≤ k ∧ k ≤ N ∧ cyclesB N l k ≠ [] := by
  rcases colors_or_cycle (JB_symm l) (JB_irrefl hU) (fun a b h => (JB_in hU a b h).1) with ⟨col, hc⟩ | ⟨k, q, h⟩
  · obtain ⟨s, hs, h1⟩ := colors_cut hU col hc
    rw [hno s hs] at h1; cases h1
  · exact ⟨k, h.1, h.2.1, odd_le hU h, List.ne_nil_of_mem (cycles_found hU h)⟩

/-- The value of the opposite side is the same. -/
theorem cut_comp (N t : Nat) (ht : t < 2 ^ N) (e : S49) (h : 0 ≤ e.f0 ∧ e.f0 < N ∧ 0 ≤ e.f1 ∧ e.f1 < N) : cutB N (2 ^ N - (t + 1)) e = cutB N t e := by
  rw [cutB, cutB, has_flip N t ht _ h.1 h.2.1, has_flip N t ht _ h.2.2.1 h.2.2.2]
  cases hasB N t e.f0 <;> cases hasB N t e.f1 <;> rfl
theorem val_comp (N t : Nat) (ht : t < 2 ^ N) (l : List S49) (hne : EdgesNe N l) : valB N (2 ^ N - (t + 1)) l = valB N t l := by
  induction l with
  | nil => rfl
  | cons e l ih =>
    have h := hne e List.mem_cons_self
    rw [valB, valB, ih (fun x hx => hne x (List.mem_cons_of_mem _ hx)), cut_comp N t ht e ⟨h.1, h.2.1, h.2.2.1, h.2.2.2.1⟩]
/-- The greatest one of the wanted sides. -/
theorem best_max (n : Int) (l : List S49) (want : Nat → Bool) (k : Nat) :
    0 ≤ (bestB n l want k).2.2 ∧ ((bestB n l want k).2.2 = 0 → ∀ s, s < k → want s = false) ∧ ((bestB n l want k).2.2 ≠ 0 → (bestB n l want k).1 < k ∧ want (bestB n l want k).1 = true ∧ valB n (bestB n l want k).1 l = (bestB n l want k).2.1 ∧
      (∀ s, s < k → want s = true → valB n s l ≤ (bestB n l want k).2.1) ∧ ∀ s, s < (bestB n l want k).1 → want s = true → valB n s l < (bestB n l want k).2.1) := by
  induction k with
  | zero => exact ⟨Int.le_refl _, fun _ s h => by omega, fun h => absurd rfl h⟩
  | succ k ih =>
    obtain ⟨i0, i1, i2⟩ := ih
    rw [bestB]
    generalize hr : bestB n l want k = r at i0 i1 i2
    unfold bestStep
    cases hw : want k
    · rw [if_neg (by decide)]
      refine ⟨i0, fun h s hs => ?_, fun h => ?_⟩
      · by_cases e : s = k
        · subst e; exact hw
        · exact i1 h s (by omega)
      · obtain ⟨a, b, c, d, e⟩ := i2 h
        refine ⟨by omega, b, c, fun s hs hws => ?_, e⟩
        by_cases e : s = k
        · subst e; rw [hw] at hws; cases hws
        · exact d s (by omega) hws
    · rw [if_pos rfl]
      by_cases c1 : r.2.2 = 0 ∨ valB n k l > r.2.1
      · rw [if_pos c1]
        have hall : ∀ s, s < k → want s = true → valB n s l < valB n k l := fun s hs hws => by
          by_cases hz : r.2.2 = 0
          · rw [i1 hz s hs] at hws; cases hws
          · obtain ⟨_, _, _, d, _⟩ := i2 hz
            rcases c1 with c1 | c1
            · exact absurd c1 hz
            · have := d s hs hws; omega
        refine ⟨by simp, fun h => by simp at h, fun _ => ⟨by simp, hw, rfl, fun s hs hws => ?_, fun s hs hws => hall s hs hws⟩⟩
        show valB n s l ≤ valB n k l
        by_cases e : s = k
        · subst e; exact Int.le_refl _
        · exact Int.le_of_lt (hall s (by omega) hws)
      · rw [if_neg c1]
        have hz : r.2.2 ≠ 0 := fun h => c1 (.inl h)
        obtain ⟨a, b, c, d, e⟩ := i2 hz
        have hle : ∀ s, s < k + 1 → want s = true → valB n s l ≤ r.2.1 := fun s hs hws => by
          by_cases e : s = k
          · subst e
            rcases Int.lt_or_le r.2.1 (valB n s l) with h | h
            · exact absurd (.inr h) c1
            · exact h
          · exact d s (by omega) hws
        split
        · exact ⟨by show 0 ≤ r.2.2 + 1; omega, fun h => by (have : r.2.2 + 1 = 0 := h); omega, fun _ => ⟨by show r.1 < k + 1; omega, b, c, hle, e⟩⟩
        · exact ⟨i0, fun h => absurd h hz, fun _ => ⟨by omega, b, c, hle, e⟩⟩
/-- What Best says of a graph. -/
theorem best_is (N : Nat) (h0 : 1 ≤ N) (l : List S49) (hne : EdgesNe N l) : (bestB N l (properB N) (2 ^ N)).1 < 2 ^ (N - 1) ∧ valB N (bestB N l (properB N) (2 ^ N)).1 l = (bestB N l (properB N) (2 ^ N)).2.1 ∧ 1 ≤ (bestB N l (properB N) (2 ^ N)).2.2 ∧
    (∀ s, s < 2 ^ N → valB N s l ≤ (bestB N l (properB N) (2 ^ N)).2.1) ∧ ∀ s, s < (bestB N l (properB N) (2 ^ N)).1 → valB N s l < (bestB N l (properB N) (2 ^ N)).2.1 := by
  obtain ⟨i0, i1, i2⟩ := best_max N l (properB N) (2 ^ N)
  generalize bestB N l (properB N) (2 ^ N) = r at i0 i1 i2
  have h3 : 2 ^ N = 2 ^ (N - 1) + 2 ^ (N - 1) := by
    obtain ⟨m, rfl⟩ : ∃ m, N = m + 1 := ⟨N - 1, by omega⟩
    rw [Nat.pow_succ]; simp; omega
  have hpos : 0 < 2 ^ (N - 1) := Nat.two_pow_pos (N - 1)
  have hz : r.2.2 ≠ 0 := fun h => by
    have := i1 h 0 (by omega)
    rw [proper_half N 0 h0 hpos] at this; cases this
  obtain ⟨a, b, c, d, e⟩ := i2 hz
  have hlt : r.1 < 2 ^ (N - 1) := by
    rcases Nat.lt_or_ge r.1 (2 ^ (N - 1)) with h | h
    · exact h
    · rw [proper_not N r.1 h0 h a] at b; cases b
  refine ⟨hlt, c, by omega, fun s hs => ?_, fun s hs => e s hs (proper_half N s h0 (by omega))⟩
  rcases Nat.lt_or_ge s (2 ^ (N - 1)) with h | h
  · exact d s hs (proper_half N s h0 h)
  · rw [← val_comp N s hs l hne]
    exact d _ (by omega) (proper_half N _ h0 (by omega))
/-- All of them, or the first one. -/
def pk (one : Bool) (xs : List (List Int)) : List (List Int) := if one then xs.take 1 else xs
theorem cyc_mem_len (n : Int) (l : List S49) (size : Nat) : ∀ (d : Nat) (p x : List Int), p ≠ [] → x ∈ cycB n l size d p → x.length = p.length + d := by
  intro d
  induction d with
  | zero =>
    intro p x _ hx
    rw [cycB] at hx
    split at hx
    · simp at hx
    · simp at hx; subst hx; rfl
  | succ d ih =>
    intro p x hne hx
    rw [cycB_step n l size d p _ _ hne rfl rfl, List.mem_flatMap] at hx
    obtain ⟨v, _, hv⟩ := hx
    split at hv
    · have := ih _ x (by simp) hv
      simp at this; omega
    · simp at hv
theorem cycles_mem_len {n : Int} {l : List S49} {size : Nat} {x : List Int} (h3 : 3 ≤ size) (hx : x ∈ cyclesB n l size) : x.length = size := by
  unfold cyclesB at hx
  rw [List.mem_flatMap] at hx
  obtain ⟨v, _, hv⟩ := hx
  have := cyc_mem_len n l size _ _ x (by simp) hv
  simp at this; omega
theorem upIn_of {N : Int} {l : List S49} (h : graphOk N l = true) : UpIn N l := by
  intro e he
  obtain ⟨i, hi, rfl⟩ := List.getElem_of_mem he
  have := (edgeOk_iff ..).1 (graphOk_edge h i hi).1
  rw [rd_at l i hi] at this
  omega
/-- The first one of the shortest odd cycles. -/
theorem odd_first (N : Nat) (h0 : 1 ≤ N) (hN : N ≤ 12) (l : List S49) (hg : graphOk N l = true) (hv : evenB N l = none) : ∃ (j : Nat) (x : List Int), 2 * j + 3 ≤ N ∧ [x] <+: cyclesB N l (2 * j + 3) ∧ (∀ i, i < j → cyclesB N l (2 * i + 3) = []) ∧ ((oddSizes N).flatMap fun k => cyclesB N l k).headD [] = x ∧ x ∈ cyclesB N l (2 * j + 3) := by
  have hU := upIn_of hg
  have hno : ∀ s, s < 2 ^ N → allCut N l s = false := by
    rw [even_all N h0 l (graphOk_edges hg), List.find?_eq_none] at hv
    intro s hs
    have := hv s (by simpa using hs)
    simpa using this
  obtain ⟨k, h1, h2, h3, h4⟩ := odd_exists hU hno
  obtain ⟨j, hj, hmin⟩ := least (fun j => 2 * j + 3 ≤ N ∧ cyclesB N l (2 * j + 3) ≠ []) ⟨(k - 3) / 2, by omega, by rw [show 2 * ((k - 3) / 2) + 3 = k by omega]; exact h4⟩
  have hbef : ∀ i, i < j → cyclesB N l (2 * i + 3) = [] := fun i hi => by
    cases hc : cyclesB N l (2 * i + 3) with
    | nil => rfl
    | cons a b => exact absurd ⟨by omega, by rw [hc]; simp⟩ (hmin i hi)
  cases hc : cyclesB N l (2 * j + 3) with
  | nil => exact absurd hc hj.2
  | cons x t =>
    have hx : [x] <+: cyclesB N l (2 * j + 3) := by rw [hc]; exact ⟨t, rfl⟩
    exact ⟨j, x, hj.1, hx, hbef, odd_some (by omega) hbef hx, hx.subset (List.mem_singleton.2 rfl)⟩
theorem edgesOk_append (n : Int) (l m : List S49) : ∀ k, k ≤ l.length → edgesOk n (l ++ m) k = edgesOk n l k := by
  intro k
  induction k with
  | zero => intro _; rfl
  | succ k ih =>
    intro hk
    rw [edgesOk, edgesOk, ih (by omega), List.getElem?_append_left (by omega), List.take_append_of_le_length (by omega)]
theorem edgesOk_snoc (n : Int) (l : List S49) (e : S49) (h : edgesOk n l l.length = true) (he : edgeOk n e = true) (hno : hasEdge l e.f0 e.f1 = false) : edgesOk n (l ++ [e]) (l ++ [e]).length = true := by
  rw [List.length_append, List.length_singleton, edgesOk, edgesOk_append n l [e] l.length (Nat.le_refl _), h, List.getElem?_append_right (Nat.le_refl _)]
  simp only [Nat.sub_self, List.getElem?_cons_zero, Bool.true_and, List.take_left']
  rw [he, hno]; rfl
theorem ends_lt (n x : Int) (hn : 1 < n) (hx : 0 ≤ x) : 0 ≤ endA n x ∧ endA n x < endB n x ∧ endB n x < n := by
  have i1 := Int.emod_nonneg x (show n ≠ 0 by omega)
  have i2 := Int.emod_lt_of_pos x (show 0 < n by omega)
  have i5 := Int.emod_nonneg (x / n) (show n - 1 ≠ 0 by omega)
  have i6 := Int.emod_lt_of_pos (x / n) (show 0 < n - 1 by omega)
  unfold endA endB
  generalize x / n % (n - 1) = r at i5 i6
  generalize x % n = a at i1 i2
  have hb : (a + 1 + r) % n = if a + 1 + r < n then a + 1 + r else a + 1 + r - n := by
    split
    · exact Int.emod_eq_of_lt (by omega) (by omega)
    · rw [show a + 1 + r = (a + 1 + r - n) + n by omega, Int.add_emod_right, Int.emod_eq_of_lt (by omega) (by omega)]
      omega
  rw [hb]
  split <;> split <;> omega
/-- What is known of a tame graph. -/
theorem tameGo_good (n : Int) (hn : 1 < n) (hn2 : n ≤ 12) (most : Nat) (low : Int) (hlow : -50 ≤ low) (hlow2 : low ≤ 50) : ∀ (l : List Int) (used : Nat → Bool) (out : List S49),
    edgesOk n out out.length = true → (∀ e ∈ out, used (e.f0.toNat * 12 + e.f1.toNat) = true ∧ 0 ≤ e.f0 ∧ 0 ≤ e.f1 ∧ e.f1 < 12) → (∀ e ∈ out, low ≤ e.f2) → out.length ≤ most →
    edgesOk n (tameGo n most low l used out) (tameGo n most low l used out).length = true ∧ (∀ e ∈ tameGo n most low l used out, low ≤ e.f2) ∧ (tameGo n most low l used out).length ≤ most := by
  intro l
  induction l with
  | nil => intro used out h1 h2 h3 h4; exact ⟨h1, h3, h4⟩
  | cons v l ih =>
    intro used out h1 h2 h3 h4
    rw [tameGo]
    have hx := modU_in v 1099511627776 (by omega)
    generalize modU v 1099511627776 = x at hx
    obtain ⟨e1, e2, e3⟩ := ends_lt n x hn hx.1
    generalize endA n x = a at e1 e2
    generalize endB n x = b at e2 e3
    have j1 := Int.emod_nonneg (x / n / n) (show 50 - low + 1 ≠ 0 by omega)
    have j2 := Int.emod_lt_of_pos (x / n / n) (show 0 < 50 - low + 1 by omega)
    generalize x / n / n % (50 - low + 1) = wt at j1 j2
    by_cases c : (out.length : Int) < most
    · rw [if_pos c]
      cases hu : used (a.toNat * 12 + b.toNat)
      · rw [if_neg (by decide)]
        refine ih _ _ (edgesOk_snoc n out _ h1 ((edgeOk_iff _ _).2 ⟨⟨by show 1 ≤ b; omega, by show b ≤ n - 1; omega⟩, ⟨e1, by show a ≤ b - 1; omega⟩, ⟨by show -50 ≤ low + wt; omega, by show low + wt ≤ 50; omega⟩⟩) ?_) ?_ ?_ ?_
        · rw [Bool.eq_false_iff]
          intro hh
          unfold hasEdge at hh
          rw [List.any_eq_true] at hh
          obtain ⟨e, he, hp⟩ := hh
          simp only [Bool.and_eq_true, beq_iff_eq] at hp
          have := (h2 e he).1
          rw [hp.1, hp.2, hu] at this; cases this
        · intro e he
          rw [List.mem_append, List.mem_singleton] at he
          rcases he with he | rfl
          · have := h2 e he
            exact ⟨by rw [this.1]; rfl, this.2⟩
          · exact ⟨by simp, e1, by show 0 ≤ b; omega, by show b < 12; omega⟩
        · intro e he
          rw [List.mem_append, List.mem_singleton] at he
          rcases he with he | rfl
          · exact h3 e he
          · show low ≤ low + wt; omega
        · simp; omega
      · rw [if_pos rfl]
        exact ih used out h1 h2 h3 h4
    · rw [if_neg c]
      exact ⟨h1, h3, h4⟩
theorem tame_f (a0 : Int) (l : List Int) (most : Nat) (low : Int) (hl : l.length * 8 ≤ 140737488351232) (hm : most ≤ 40) (hlow : -50 ≤ low) (hlow2 : low ≤ 50) :
    ∃ (N : Nat) (g : List S49), remouldlaw05_tame.f a0 l most low = some ((N : Int), g) ∧ 1 ≤ N ∧ N ≤ 12 ∧ graphOk N g = true ∧ (∀ e ∈ g, low ≤ e.f2) ∧ g.length ≤ most := by
  have hin := modU_in a0 12 (by omega)
  refine ⟨(1 + modU a0 12).toNat, if 1 + modU a0 12 > 1 then tameGo (1 + modU a0 12) most low l (fun _ => false) [] else [], ?_, by omega, by omega, ?_⟩
  · rw [remouldlaw05_tame.f, if_pos ⟨hl, by omega, hlow, hlow2⟩]
    congr 2
    omega
  · have e : (((1 + modU a0 12).toNat : Nat) : Int) = 1 + modU a0 12 := by omega
    rw [e]
    by_cases c : 1 + modU a0 12 > 1
    · rw [if_pos c]
      obtain ⟨g1, g2, g3⟩ := tameGo_good (1 + modU a0 12) c (by omega) most low hlow hlow2 l (fun _ => false) [] rfl (by simp) (by simp) (by simp)
      refine ⟨?_, g2, g3⟩
      rw [graphOk, (inB_iff _ 1 12).2 ⟨by omega, by omega⟩, decide_eq_true (show _ ≤ 40 by omega), g1]; rfl
    · rw [if_neg c]
      refine ⟨?_, by simp, by simp⟩
      rw [graphOk, (inB_iff _ 1 12).2 ⟨by omega, by omega⟩]; rfl

theorem best_b (N : Nat) (g : List S49) (hg : graphOk N g = true) : belt_Best.f N g = some (textB N (bestB N g (properB N) (2 ^ N)).1, (bestB N g (properB N) (2 ^ N)).2.1, 0) := by
  rw [belt_Best.f, hg]; rfl
def unAt (N t : Nat) (c : List Int) (i : Nat) : Bool := hasB N t (rd c (i : Int)) == hasB N t (rd c (((i + 1) % c.length : Nat) : Int))
theorem uncut_exists (N t : Nat) {l : List S49} {c : List Int} (h : CycIs l c) : (List.range c.length).any (unAt N t c) = true := by
  obtain ⟨h3, hodd, _, _⟩ := h
  obtain ⟨i, hi, he⟩ := cycle_uncut c.length hodd (fun i => hasB N t (rd c ((i % c.length : Nat) : Int))) (by simp)
  rw [List.any_eq_true]
  refine ⟨i, by simpa using hi, ?_⟩
  unfold unAt
  simp only [Nat.mod_eq_of_lt hi] at he
  rw [he]; simp
theorem nodup_sub {α : Type} [BEq α] [LawfulBEq α] : ∀ (ps qs : List α), ps.Nodup → (∀ p ∈ ps, p ∈ qs) → ps.length ≤ qs.length
  | [], _, _, _ => Nat.zero_le _
  | p :: ps, qs, h, hs => by
    rw [List.nodup_cons] at h
    have hm := hs p List.mem_cons_self
    have := nodup_sub ps (qs.erase p) h.2 (fun q hq => by
      refine (List.mem_erase_of_ne ?_).2 (hs q (List.mem_cons_of_mem _ hq))
      rintro rfl
      exact h.1 hq)
    have h2 := List.length_erase_of_mem hm
    have h3 := List.length_pos_of_mem hm
    rw [List.length_cons]
    omega
theorem disjB_iff (c : List Int) (us : List (Int × Int)) : disjB c us = true ↔ ∀ p ∈ endsB c, p ∉ us := by
  unfold disjB
  rw [Bool.not_eq_true', List.any_eq_false]
  constructor
  · intro h p hp hm
    exact h p hp (by simpa using hm)
  · intro h p hp hm
    exact h p hp (by simpa using hm)
theorem allB_cyc {N : Nat} {l : List S49} {c : List Int} (h : c ∈ allB N l) : CycIs l c ∧ 3 ≤ c.length ∧ c.length ≤ N ∧ c.length % 2 = 1 := by
  unfold allB oddSizes at h
  rw [List.mem_flatMap] at h
  obtain ⟨k, hk, hc⟩ := h
  rw [List.mem_map] at hk
  obtain ⟨i, hi, rfl⟩ := hk
  have hi' : i < (N - 1) / 2 := by simpa using hi
  have hl := cycles_mem_len (by omega) hc
  exact ⟨cycles_sound (by omega) (by omega) hc, by omega, by omega, by omega⟩
theorem ends_in2 {l : List S49} {c : List Int} (h : CycIs l c) : ∀ p ∈ endsB c, hasEdge l p.1 p.2 = true := by
  intro p hp
  rw [endsB_eq, List.mem_map] at hp
  obtain ⟨i, hi, rfl⟩ := hp
  have h1 := (h.2.2.2 i (by simpa using hi)).1
  rw [rd_getD, rd_getD] at h1
  exact h1
/-- Each cycle that is laid has an uncut edge of its own. -/
theorem laid_uncut (N t : Nat) (l : List S49) : ∀ (cs : List (List Int)) (us : List (Int × Int)), Laid us cs → (∀ c ∈ cs, CycIs l c) → ∃ ps : List (Int × Int), ps.length = cs.length ∧ ps.Nodup ∧ ∀ p ∈ ps, hasEdge l p.1 p.2 = true ∧ hasB N t p.1 = hasB N t p.2 ∧ p ∉ us
  | [], _, _, _ => ⟨[], rfl, List.nodup_nil, by simp⟩
  | c :: cs, us, ⟨h1, h2⟩, hc => by
    obtain ⟨ps, e1, e2, e3⟩ := laid_uncut N t l cs _ h2 (fun x hx => hc x (List.mem_cons_of_mem _ hx))
    have hcy := hc c List.mem_cons_self
    have hu := uncut_exists N t hcy
    rw [List.any_eq_true] at hu
    obtain ⟨i, hi, hb⟩ := hu
    have hm : endAt c i ∈ endsB c := by
      rw [endsB_eq]
      exact List.mem_map.2 ⟨i, hi, rfl⟩
    refine ⟨endAt c i :: ps, by simp [e1], List.nodup_cons.2 ⟨fun hp => ?_, e2⟩, fun p hp => ?_⟩
    · exact (e3 _ hp).2.2 (List.mem_append.2 (.inr hm))
    · rcases List.mem_cons.1 hp with rfl | hp
      · refine ⟨ends_in2 hcy _ hm, ?_, (disjB_iff _ _).1 h1 _ hm⟩
        unfold unAt at hb
        rw [rd_getD, rd_getD] at hb
        have hb' := eq_of_beq hb
        unfold endAt
        simp only
        split
        · exact hb'
        · exact hb'.symm
      · obtain ⟨a, b, d⟩ := e3 p hp
        exact ⟨a, b, fun hm2 => d (List.mem_append.2 (.inl hm2))⟩
theorem laid_bound (N t : Nat) (l : List S49) (cs : List (List Int)) (h1 : Laid [] cs) (h2 : ∀ c ∈ cs, CycIs l c) : cs.length ≤ l.countP fun e => !cutB N t e := by
  obtain ⟨ps, e1, e2, e3⟩ := laid_uncut N t l cs [] h1 h2
  rw [← e1, List.countP_eq_length_filter]
  have := nodup_sub ps ((l.filter fun e => !cutB N t e).map fun e => (e.f0, e.f1)) e2 (fun p hp => by
    obtain ⟨a, b, _⟩ := e3 p hp
    obtain ⟨e, he, h3, h4⟩ := (hasEdge_iff l p.1 p.2).1 a
    refine List.mem_map.2 ⟨e, List.mem_filter.2 ⟨he, ?_⟩, ?_⟩
    · unfold cutB
      rw [h3, h4, b]; simp
    · rw [h3, h4])
  rwa [List.length_map] at this
theorem val_ones (N t : Nat) : ∀ (l : List S49), (∀ e ∈ l, e.f2 = 1) → valB N t l + ((l.countP fun e => !cutB N t e : Nat) : Int) = l.length
  | [], _ => rfl
  | e :: l, h => by
    have ih := val_ones N t l (fun x hx => h x (List.mem_cons_of_mem _ hx))
    have he := h e List.mem_cons_self
    rw [valB, List.countP_cons, List.length_cons]
    cases cutB N t e
    · simp; omega
    · simp [he]; omega
theorem val_all (N t : Nat) (l : List S49) (h : ∀ e ∈ l, e.f2 = 1) : valB N t l = l.length ↔ allCut N l t = true := by
  have h1 := val_ones N t l h
  have h2 : (l.countP fun e => !cutB N t e) = 0 ↔ allCut N l t = true := by
    unfold allCut
    rw [List.countP_eq_zero, List.all_eq_true]
    constructor
    · intro h e he
      have := h e he
      simpa using this
    · intro h e he
      have := h e he
      simpa using this
  rw [← h2]
  omega
/-- There are no odd cycles exactly if a side cuts all. -/
theorem apart_nil (N : Nat) (h0 : 1 ≤ N) (hN : N ≤ 12) (l : List S49) (hg : graphOk N l = true) : apartB N l = [] ↔ ∃ s, evenB N l = some s := by
  constructor
  · intro h
    have ha := apartB_nil h
    cases hv : evenB N l with
    | some s => exact ⟨s, rfl⟩
    | none =>
      exfalso
      obtain ⟨j, y, g1, g2, g3, g4, g5⟩ := odd_first N h0 hN l hg hv
      have : y ∈ allB N l := by
        unfold allB oddSizes
        rw [List.mem_flatMap]
        refine ⟨2 * j + 3, List.mem_map.2 ⟨j, ?_, rfl⟩, g5⟩
        simp
        omega
      rw [ha] at this
      cases this
  · rintro ⟨s, hv⟩
    rw [even_all N h0 l (graphOk_edges hg), List.find?_range_eq_some] at hv
    obtain ⟨h1, h2⟩ := apartB_is N l
    have h3 := laid_bound N s l _ h1 (fun c hc => (allB_cyc (h2 c hc)).1)
    have h4 : (l.countP fun e => !cutB N s e) = 0 := by
      have := hv.1
      unfold allCut at this
      rw [List.all_eq_true] at this
      rw [List.countP_eq_zero]
      intro e he
      simp [this e he]
    rw [h4] at h3
    exact List.length_eq_zero_iff.1 (by omega)
theorem even_some (N : Nat) (h0 : 1 ≤ N) (l : List S49) (hg : graphOk N l = true) : (∃ s, evenB N l = some s) ↔ ∃ s, s < 2 ^ N ∧ allCut N l s = true := by
  rw [even_all N h0 l (graphOk_edges hg)]
  constructor
  · rintro ⟨s, hs⟩
    rw [List.find?_range_eq_some] at hs
    exact ⟨s, by simpa using hs.2.1, hs.1⟩
  · rintro ⟨s, h1, h2⟩
    cases h : (List.range (2 ^ N)).find? fun s => allCut N l s with
    | some t => exact ⟨t, rfl⟩
    | none =>
      rw [List.find?_eq_none] at h
      exact absurd h2 (h s (by simpa using h1))
/-- With weights 1: the best value, the number of cycles that are apart, and the sides. -/
theorem bound_facts (N : Nat) (h0 : 1 ≤ N) (hN : N ≤ 12) (l : List S49) (hg : graphOk N l = true) (h1 : ∀ e ∈ l, e.f2 = 1) :
    (bestB N l (properB N) (2 ^ N)).2.1 ≤ (l.length : Int) - (apartB N l).length ∧ ((bestB N l (properB N) (2 ^ N)).2.1 = (l.length : Int) ↔ ∃ s, evenB N l = some s) ∧ (apartB N l).length ≤ l.length := by
  obtain ⟨d1, d2, d3, d4, d5⟩ := best_is N h0 l (edgesNe_of hg)
  obtain ⟨k1, k2⟩ := apartB_is N l
  have hb := laid_bound N (bestB N l (properB N) (2 ^ N)).1 l _ k1 (fun c hc => (allB_cyc (k2 c hc)).1)
  have hv := val_ones N (bestB N l (properB N) (2 ^ N)).1 l h1
  have hc : (l.countP fun e => !cutB N (bestB N l (properB N) (2 ^ N)).1 e) ≤ l.length := List.countP_le_length
  refine ⟨by omega, ?_, by omega⟩
  rw [even_some N h0 l hg]
  constructor
  · intro h
    refine ⟨_, ?_, (val_all N _ l h1).1 (d2.trans h)⟩
    have : 2 ^ (N - 1) ≤ 2 ^ N := Nat.pow_le_pow_right (by omega) (by omega)
    omega
  · rintro ⟨s, hs, ha⟩
    have h5 := (val_all N s l h1).2 ha
    have h6 := d4 s hs
    omega
end Go.Proofs.Ytkefmlhkejoknaa.L
