/- Plain law: the law BeltAparts. -/
import Derived.Test.YtkefmlhkejoknabP40
import Derived.Test.YtkefmlhkejoknabL7
namespace Go.Proofs.Ytkefmlhkejoknab.L
set_option linter.unusedVariables false
set_option linter.unusedSimpArgs false
open Go.RowKit Go.Proofs.YtkefmlhkejoknabW.PrintWords Go.Proofs.YtkefmlhkejoknabW.PrintLast Go.Proofs.YtkefmlhkejoknabW.PrintMore

theorem ms_and (a b : Nat) : a &&& b = a ↔ ∀ j, a.testBit j = true → b.testBit j = true := by
  constructor
  · intro h j hj
    have := congrArg (fun x => x.testBit j) h
    simpa [Nat.testBit_and, hj] using this
  · intro h
    apply Nat.eq_of_testBit_eq; intro j
    rw [Nat.testBit_and]
    cases ha : a.testBit j
    · rfl
    · rw [h j ha]; rfl
theorem ms_disj (a b : Nat) : a &&& b = 0 ↔ ∀ j, a.testBit j = true → b.testBit j = false := by
  constructor
  · intro h j hj
    have := congrArg (fun x => x.testBit j) h
    simpa [Nat.testBit_and, hj] using this
  · intro h
    apply Nat.eq_of_testBit_eq; intro j
    rw [Nat.testBit_and, Nat.zero_testBit]
    cases ha : a.testBit j
    · rfl
    · rw [h j ha]; rfl
theorem sub_xor (s m : Nat) (h : m &&& s = m) : s - m = s ^^^ m := by
  have h1 : (s ^^^ m) &&& m = 0 := (ms_disj _ _).2 (fun j hj => by
    rw [Nat.testBit_xor] at hj
    cases hm : m.testBit j
    · rfl
    · rw [(ms_and m s).1 h j hm, hm] at hj; cases hj)
  have h2 : (s ^^^ m) ||| m = s := by
    apply Nat.eq_of_testBit_eq; intro j
    rw [Nat.testBit_or, Nat.testBit_xor]
    cases hm : m.testBit j
    · simp
    · rw [(ms_and m s).1 h j hm]; rfl
  have hs : s < 2 ^ (s + m) := Nat.lt_of_lt_of_le Nat.lt_two_pow_self (Nat.pow_le_pow_right (by omega) (by omega))
  have hm : m < 2 ^ (s + m) := Nat.lt_of_lt_of_le Nat.lt_two_pow_self (Nat.pow_le_pow_right (by omega) (by omega))
  have h3 := add_or (s ^^^ m) m (s + m) (Nat.xor_lt_two_pow hs hm) hm h1
  omega
/-- Masks out of ms, in the set, no two with a digit in common. -/
def Fam (ms : List Nat) (set : Nat) (fam : List Nat) : Prop := (∀ m ∈ fam, m ∈ ms ∧ m &&& set = m) ∧ fam.Pairwise fun a b => a &&& b = 0
theorem Fam.nil (ms : List Nat) (set : Nat) : Fam ms set [] := ⟨by simp, List.Pairwise.nil⟩
theorem fam_cons {ms : List Nat} {set m : Nat} {fam : List Nat} (h : m &&& set = m) (hm : m ∈ ms) : Fam ms set (m :: fam) ↔ Fam ms (set ^^^ m) fam := by
  have key : ∀ x, (x &&& set = x ∧ m &&& x = 0) ↔ x &&& (set ^^^ m) = x := by
    intro x
    rw [ms_and, ms_and, ms_disj]
    constructor
    · rintro ⟨a, b⟩ j hj
      rw [Nat.testBit_xor, a j hj]
      cases hmj : m.testBit j
      · rfl
      · rw [b j hmj] at hj; cases hj
    · intro a
      refine ⟨fun j hj => ?_, fun j hmj => ?_⟩
      · have := a j hj
        rw [Nat.testBit_xor] at this
        cases hs : set.testBit j
        · cases hmj : m.testBit j
          · rw [hs, hmj] at this; cases this
          · rw [(ms_and m set).1 h j hmj] at hs; cases hs
        · rfl
      · cases hx : x.testBit j
        · rfl
        · have := a j hx
          rw [Nat.testBit_xor, (ms_and m set).1 h j hmj, hmj] at this; cases this
  unfold Fam
  rw [List.pairwise_cons]
  constructor
  · rintro ⟨a, b, c⟩
    exact ⟨fun x hx => ⟨(a x (List.mem_cons_of_mem _ hx)).1, (key x).1 ⟨(a x (List.mem_cons_of_mem _ hx)).2, b x hx⟩⟩, c⟩
  · rintro ⟨a, c⟩
    refine ⟨fun x hx => ?_, fun x hx => ((key x).2 (a x hx).2).2, c⟩
    rcases List.mem_cons.1 hx with rfl | hx
    · exact ⟨hm, h⟩
    · exact ⟨(a x hx).1, ((key x).2 (a x hx).2).1⟩
/-- The most that lie in a set. -/
def IsMax (ms : List Nat) (set v : Nat) : Prop := (∃ fam, Fam ms set fam ∧ fam.length = v) ∧ ∀ fam, Fam ms set fam → fam.length ≤ v
/-- .. of those that begin with one of the first i. -/
def PartMax (ms : List Nat) (set i v : Nat) : Prop := (∃ fam, Fam ms set fam ∧ fam.length = v) ∧ ∀ m fam, Fam ms set (m :: fam) → m ∈ ms.take i → fam.length + 1 ≤ v
theorem rd_set (dp : List Int) (k s : Nat) (x : Int) (hk : k < dp.length) : rd (dp.set k x) (s : Int) = if s = k then x else rd dp (s : Int) := by
  by_cases h : s = k
  · subst h
    rw [if_pos rfl]
    simp [rd, List.getD_eq_getElem?_getD, hk]
  · rw [if_neg h]
    simp [rd, List.getD_eq_getElem?_getD, List.getElem?_set_ne (Ne.symm h)]
def castL (ms : List Nat) : List Int := List.map (fun m : Nat => (m : Int)) ms
theorem castL_rd (ms : List Nat) (i : Nat) (h : i < ms.length) : rd (castL ms) (i : Int) = (ms[i] : Int) := by simp [rd, castL, h]
theorem castL_len (ms : List Nat) : (castL ms).length = ms.length := by simp [castL]
/-- What is known of the table up to k. -/
def DpTo (ms : List Nat) (dp : List Int) (k : Nat) : Prop := ∀ s, s < k → ∃ v : Nat, rd dp (s : Int) = v ∧ v ≤ s ∧ IsMax ms s v
theorem ap_l3 (ms : List Nat) (n : Nat) (hn : n ≤ 12) (hpos : ∀ m ∈ ms, 0 < m ∧ m < 2 ^ 41) (hlen : ms.length ≤ 8000000000000) (r : Int) (set : Nat) (hset : set < 2 ^ n)
    (hk : ∀ dp : List Int, dp.length = 2 ^ n → DpTo ms dp (set + 1) → (∀ s, set < s → s < 2 ^ n → rd dp (s : Int) = 0) → Ev (fun k => remouldref05_Apart.l2 k (castL ms) dp ((set + 1 : Nat) : Int)) r) :
    ∀ d i, i + d = ms.length → ∀ (dp : List Int) (cur : Nat), dp.length = 2 ^ n → DpTo ms dp set → (∀ s, set < s → s < 2 ^ n → rd dp (s : Int) = 0) → rd dp (set : Int) = cur → cur ≤ set → PartMax ms set i cur →
      Ev (fun k => remouldref05_Apart.l3 k (castL ms) dp set i) r := by
  have hp : 2 ^ n ≤ 2 ^ 12 := Nat.pow_le_pow_right (by omega) hn
  intro d
  induction d with
  | zero =>
    intro i hi dp cur hl hd hz hc hcs hpm
    obtain rfl : i = ms.length := by omega
    refine Ev.step (fun k => by rw [remouldref05_Apart.l3, if_neg (by rw [castL_len]; omega), wrap64_id _ (by omega) (by omega)]) ?_
    refine hk dp hl (fun s hs => ?_) hz
    by_cases h : s = set
    · subst h
      refine ⟨cur, hc, hcs, hpm.1, fun fam hf => ?_⟩
      cases fam with
      | nil => simp
      | cons m fam => exact hpm.2 m fam hf (by rw [List.take_length]; exact (hf.1 m List.mem_cons_self).1)
    · exact hd s (by omega)
  | succ d ih =>
    intro i hi dp cur hl hd hz hc hcs hpm
    have hlt : i < ms.length := by omega
    have hrd := castL_rd ms i hlt
    have hmem : ms[i] ∈ ms := List.getElem_mem hlt
    have hm0 := hpos _ hmem
    have htk : ms.take (i + 1) = ms.take i ++ [ms[i]] := by rw [List.take_succ_eq_append_getElem hlt]
    generalize hmi : ms[i] = m at hrd hmem hm0 htk
    by_cases hs : m &&& set = m
    · have hle : m ≤ set := by rw [← hs]; exact Nat.and_le_right
      obtain ⟨v, hv, hvs, hmax⟩ := hd (set - m) (by omega)
      rw [sub_xor set m hs] at hmax
      have hw : wrap64 ((set : Int) - (m : Int)) = ((set - m : Nat) : Int) := by rw [wrap64_id _ (by omega) (by omega)]; omega
      have hmx : mx (rd dp (set : Int)) (wrap64 (rd dp ((set - m : Nat) : Int) + 1)) = ((max cur (v + 1) : Nat) : Int) := by
        rw [hc, hv, wrap64_id _ (by omega) (by omega)]
        unfold mx
        split <;> omega
      have hdl : set < dp.length := by omega
      refine Ev.step (fun k => ?_) (ih (i + 1) (by omega) (dp.set set ((max cur (v + 1) : Nat) : Int)) (max cur (v + 1)) (by rw [List.length_set]; exact hl) (fun s h => ?_) (fun s h h2 => ?_) ?_ (by omega) ?_)
      · rw [remouldref05_Apart.l3, if_pos (by rw [castL_len]; omega), if_pos (by omega), hrd, i64_and _ _ (by omega) (by omega), if_pos (by rw [Nat.and_comm, hs]), if_pos (by omega), if_pos (by omega), hw, if_pos (by omega), if_pos (by omega), hmx, Int.toNat_natCast, wrap64_id _ (by omega) (by omega)]
        rfl
      · rw [rd_set _ _ _ _ hdl, if_neg (by omega)]
        exact hd s h
      · rw [rd_set _ _ _ _ hdl, if_neg (by omega)]
        exact hz s h h2
      · rw [rd_set _ _ _ _ hdl, if_pos rfl]
      · refine ⟨?_, fun m2 fam hf hm2 => ?_⟩
        · rcases Nat.le_total (v + 1) cur with h | h
          · rw [Nat.max_eq_left h]; exact hpm.1
          · rw [Nat.max_eq_right h]
            obtain ⟨fam, hf, hfl⟩ := hmax.1
            exact ⟨m :: fam, (fam_cons hs hmem).2 hf, by simp [hfl]⟩
        · rw [htk] at hm2
          rcases List.mem_append.1 hm2 with h | h
          · have := hpm.2 m2 fam hf h; omega
          · rw [List.mem_singleton.1 h] at hf
            have := hmax.2 fam ((fam_cons hs hmem).1 hf)
            omega
    · refine Ev.step (fun k => ?_) (ih (i + 1) (by omega) dp cur hl hd hz hc hcs ⟨hpm.1, fun m2 fam hf hm2 => ?_⟩)
      · rw [remouldref05_Apart.l3, if_pos (by rw [castL_len]; omega), if_pos (by omega), hrd]
        rw [i64_and _ _ (by omega) (by omega), if_neg (by rw [Nat.and_comm]; intro e; exact hs (by omega)), wrap64_id _ (by omega) (by omega)]
        rfl
      · rw [htk] at hm2
        rcases List.mem_append.1 hm2 with h | h
        · exact hpm.2 m2 fam hf h
        · rw [List.mem_singleton.1 h] at hf
          exact absurd (hf.1 m List.mem_cons_self).2 hs
theorem ap_l2 (ms : List Nat) (n : Nat) (hn : n ≤ 12) (hpos : ∀ m ∈ ms, 0 < m ∧ m < 2 ^ 41) (hlen : ms.length ≤ 8000000000000) (r : Int) (hV : ∀ v : Nat, IsMax ms (2 ^ n - 1) v → (v : Int) = r) :
    ∀ d set, set + d = 2 ^ n → ∀ dp : List Int, dp.length = 2 ^ n → DpTo ms dp set → (∀ s, set ≤ s → s < 2 ^ n → rd dp (s : Int) = 0) → Ev (fun k => remouldref05_Apart.l2 k (castL ms) dp set) r := by
  have hp : 2 ^ n ≤ 2 ^ 12 := Nat.pow_le_pow_right (by omega) hn
  have hp0 : 0 < 2 ^ n := Nat.two_pow_pos n
  intro d
  induction d with
  | zero =>
    intro set hs dp hl hd hz
    obtain ⟨v, h1, h2, h3⟩ := hd (2 ^ n - 1) (by omega)
    have hw : wrap64 ((dp.length : Int) - 1) = ((2 ^ n - 1 : Nat) : Int) := by rw [wrap64_id _ (by omega) (by omega)]; omega
    refine Ev.step (fun k => ?_) (Ev.const r)
    rw [remouldref05_Apart.l2, if_neg (by omega), hw, if_pos (by omega), if_pos (by omega), h1, hV v h3]
  | succ d ih =>
    intro set hs dp hl hd hz
    refine Ev.step (fun k => by rw [remouldref05_Apart.l2, if_pos (by omega)]) ?_
    refine ap_l3 ms n hn hpos hlen r set (by omega) (fun dp h1 h2 h3 => ih (set + 1) (by omega) dp h1 h2 (fun s h4 h5 => h3 s (by omega) h5)) ms.length 0 (by omega) dp 0 hl hd (fun s h4 h5 => hz s (by omega) h5) (hz set (Nat.le_refl _) (by omega)) (by omega) ⟨⟨[], Fam.nil _ _, rfl⟩, fun m fam _ h => by simp at h⟩

/-- A cycle's mask. -/
def mkOf (l : List S46) (c : List Int) : Nat := maskOf l (endsB c)
theorem castL_append (a b : List Nat) : castL (a ++ b) = castL a ++ castL b := by simp [castL]
theorem ap_l1 (N : Nat) (l : List S46) (hl : l.length ≤ 12) (cy : List (List Int)) (hcy : ∀ c ∈ cy, CycIs l c ∧ c.length ≤ 12) (r : Int) (pre : List Nat) (hb : pre.length + cy.length ≤ 8000000000000) (s : Nat) (hs : s ≤ 100)
    (hk : Ev (fun k => remouldref05_Apart.l0 k N l (castL (pre ++ cy.map (mkOf l))) ((s + 2 : Nat) : Int)) r) :
    ∀ d i, i + d = cy.length → Ev (fun k => remouldref05_Apart.l1 k N l (castL (pre ++ (cy.take i).map (mkOf l))) s cy i) r := by
  intro d
  induction d with
  | zero =>
    intro i hi
    obtain rfl : i = cy.length := by omega
    rw [List.take_length]
    exact Ev.step (fun k => by rw [remouldref05_Apart.l1, if_neg (by omega), wrap64_id _ (by omega) (by omega)]; rfl) hk
  | succ d ih =>
    intro i hi
    have hlt : i < cy.length := by omega
    obtain ⟨h1, h2⟩ := hcy _ (List.getElem_mem hlt)
    obtain ⟨q, h3, h4⟩ := cycle_yes (show l.length ≤ 41 by omega) (by omega) h1
    rw [mask_ends h1] at h3
    obtain rfl := (Option.some.inj h3).symm
    have ih' := ih (i + 1) (by omega)
    rw [List.take_succ_eq_append_getElem hlt, List.map_append, ← List.append_assoc, castL_append] at ih'
    refine Ev.step (fun k => ?_) ih'
    rw [remouldref05_Apart.l1, if_pos (by omega), if_pos (by omega), rd_L4_at cy i hlt, h4]
    show (if (castL (pre ++ (cy.take i).map (mkOf l))).length < 17592186044416 then _ else _) = _
    rw [if_pos (by rw [castL_len]; simp; omega), wrap64_id _ (by omega) (by omega)]
    rfl
/-- The masks of the cycles of the first j sizes. -/
def upM (N : Nat) (l : List S46) (j : Nat) : List Nat := (upB N l j).map (mkOf l)
theorem ap_l0 (N : Nat) (h0 : 1 ≤ N) (hN : N ≤ 12) (l : List S46) (hl : l.length ≤ 12) (hg : graphOk N l = true) (r : Int)
    (hfin : Ev (fun k => remouldref05_Apart.l2 k (castL ((allB N l).map (mkOf l))) (List.replicate (2 ^ l.length) 0) 0) r) :
    ∀ d j, j + d = 6 → ((2 * j + 3 : Nat) : Int) ≤ (N : Int) + 2 → Ev (fun k => remouldref05_Apart.l0 k N l (castL (upM N l j)) ((2 * j + 3 : Nat) : Int)) r := by
  have hp : 2 ^ l.length ≤ 2 ^ 12 := Nat.pow_le_pow_right (by omega) hl
  intro d
  induction d with
  | zero => intro j hj h; omega
  | succ d ih =>
    intro j hj h
    by_cases hle : 2 * j + 3 ≤ N
    · have hb := upB_len N l (by omega) j (by omega)
      have hb2 := cyclesB_count N l (2 * j + 3) (by omega) (by omega)
      have hb3 : 12 ^ (2 * j + 3) ≤ 12 ^ 11 := Nat.pow_le_pow_right (by omega) (by omega)
      have hb4 : 12 ^ 11 = 743008370688 := by decide
      have hc := cycles_top N hN l (by omega) (2 * j + 3) (by omega) (by omega) (by omega) false
      refine Ev.step (fun k => by rw [remouldref05_Apart.l0, if_pos (by omega)]) (Ev.bind hc ?_)
      have ih' := ih (j + 1) (by omega) (by omega)
      have e : upM N l (j + 1) = upM N l j ++ (cyclesB N l (2 * j + 3)).map (mkOf l) := by unfold upM; rw [upB_succ, List.map_append]
      rw [e] at ih'
      have := ap_l1 N l hl (cyclesB N l (2 * j + 3)) (fun c hc => by
        have hq := cyclesB_len (by omega) hc
        exact ⟨cycles_sound (by omega) (by omega) hc, by omega⟩) r (upM N l j) (by unfold upM; rw [List.length_map]; omega) (2 * j + 3) (by omega) (by
          rw [show 2 * j + 3 + 2 = 2 * (j + 1) + 3 by omega]
          exact ih') (cyclesB N l (2 * j + 3)).length 0 (by omega)
      rw [List.take_zero, List.map_nil, List.append_nil] at this
      exact this
    · have ha : upB N l j = allB N l := upB_all (by omega) h
      have hsh : shl .i64 1 (l.length : Int) = ((2 ^ l.length : Nat) : Int) := by
        unfold shl
        rw [Int.toNat_natCast, Nat.min_eq_left (show l.length ≤ IntKind.i64.bits from Nat.le_trans hl (by decide)), Int.one_mul]
        exact shl_i64 l.length (by omega)
      refine Ev.step (fun k => ?_) hfin
      rw [remouldref05_Apart.l0, if_neg (show ¬ ((2 * j + 3 : Nat) : Int) ≤ (N : Int) by omega), hsh, if_pos (Int.natCast_nonneg _), Int.toNat_natCast, if_pos (show 2 ^ l.length ≤ 35184372088832 by omega)]
      unfold upM
      rw [ha]
theorem mk_disj {l : List S46} {c d : List Int} (hc : CycIs l c) (hd : CycIs l d) : Disj c d ↔ mkOf l c &&& mkOf l d = 0 := by
  unfold mkOf
  rw [Nat.and_comm, ← free_mask hc (endsB d) (ends_in hd), freeB_iff _ _ (ends_nodup hc)]
  rfl
theorem mk_pos {l : List S46} {c : List Int} (hc : CycIs l c) : 0 < mkOf l c := by
  have h3 := hc.1
  have hne : endsB c ≠ [] := by
    intro e
    have := endsB_len c
    rw [e] at this
    simp at this
    omega
  obtain ⟨p, hp⟩ := List.exists_mem_of_ne_nil _ hne
  have : (mkOf l c).testBit (posOf l p) = true := by
    unfold mkOf
    rw [mask_test, List.any_eq_true]
    exact ⟨p, hp, by simp⟩
  rcases Nat.eq_zero_or_pos (mkOf l c) with h | h
  · rw [h, Nat.zero_testBit] at this; cases this
  · exact h
theorem all_nodup (N : Nat) (l : List S46) : (allB N l).Nodup := allB_nodup N l (fun k => cyclesB_nodup N l k) (fun k c hk hc => cyclesB_len (by omega) hc)
theorem max_is (N : Nat) (l : List S46) (hl : l.length ≤ 12) (v : Nat) (h : IsMax ((allB N l).map (mkOf l)) (2 ^ l.length - 1) v) : v = (apartB N l).length := by
  obtain ⟨⟨fam, hf, hv⟩, hmax⟩ := h
  obtain ⟨k1, k2⟩ := apartB_is N l
  have hcy : ∀ c ∈ allB N l, CycIs l c := fun c hc => (allB_cyc hc).1
  apply Nat.le_antisymm
  · have hex : ∀ fam : List Nat, (∀ m ∈ fam, m ∈ (allB N l).map (mkOf l)) → ∃ cs : List (List Int), cs.map (mkOf l) = fam ∧ ∀ c ∈ cs, c ∈ allB N l := by
      intro fam
      induction fam with
      | nil => intro _; exact ⟨[], rfl, by simp⟩
      | cons m fam ih =>
        intro hm
        obtain ⟨cs, h1, h2⟩ := ih (fun x hx => hm x (List.mem_cons_of_mem _ hx))
        obtain ⟨c, h3, h4⟩ := List.mem_map.1 (hm m List.mem_cons_self)
        refine ⟨c :: cs, by rw [List.map_cons, h4, h1], fun x hx => ?_⟩
        rcases List.mem_cons.1 hx with rfl | hx
        · exact h3
        · exact h2 x hx
    obtain ⟨cs, h1, h2⟩ := hex fam (fun m hm => (hf.1 m hm).1)
    have hp : cs.Pairwise Disj := by
      have := hf.2
      rw [← h1, List.pairwise_map] at this
      exact this.imp_of_mem (fun {a b} ha hb hab => (mk_disj (hcy a (h2 a ha)) (hcy b (h2 b hb))).2 hab)
    have hnd : cs.Nodup := by
      rw [List.nodup_iff_pairwise_ne]
      refine hp.imp_of_mem (fun {a b} ha hb hab e => ?_)
      subst e
      have hpos := mk_pos (hcy a (h2 a ha))
      have := (mk_disj (hcy a (h2 a ha)) (hcy a (h2 a ha))).1 hab
      rw [Nat.and_self] at this
      omega
    have := apartB_most N l cs h2 hnd hp (all_nodup N l)
    rw [← h1, List.length_map] at hv
    omega
  · have := hmax ((apartB N l).map (mkOf l)) ⟨fun m hm => ?_, ?_⟩
    · rwa [List.length_map] at this
    · obtain ⟨c, hc, rfl⟩ := List.mem_map.1 hm
      refine ⟨List.mem_map.2 ⟨c, k2 c hc, rfl⟩, ?_⟩
      have hlt := mask_lt l (endsB c) (ends_in (hcy c (k2 c hc)))
      exact Nat.and_two_pow_sub_one_of_lt_two_pow hlt
    · rw [List.pairwise_map]
      exact ((laid_iff _ _).1 k1).1.imp_of_mem (fun {a b} ha hb hab => (mk_disj (hcy a (k2 a ha)) (hcy b (k2 b hb))).1 hab)
theorem refApart_f (N : Nat) (h0 : 1 ≤ N) (hN : N ≤ 12) (l : List S46) (hl : l.length ≤ 12) (hg : graphOk N l = true) : Ev (fun k => remouldref05_Apart.f k N l) ((apartB N l).length : Int) := by
  have hcy : ∀ c ∈ allB N l, CycIs l c := fun c hc => (allB_cyc hc).1
  have hfin := ap_l2 ((allB N l).map (mkOf l)) l.length hl (fun m hm => by
    obtain ⟨c, hc, rfl⟩ := List.mem_map.1 hm
    have hlt := mask_lt l (endsB c) (ends_in (hcy c hc))
    have hp : 2 ^ l.length ≤ 2 ^ 12 := Nat.pow_le_pow_right (by omega) hl
    refine ⟨mk_pos (hcy c hc), ?_⟩
    unfold mkOf
    omega) (by
    rw [List.length_map, ← upB_all (j := (N - 1) / 2) (by omega) (by omega)]
    have := upB_len N l (by omega) ((N - 1) / 2) (by omega)
    omega) ((apartB N l).length : Int) (fun v hv => by rw [max_is N l hl v hv]) (2 ^ l.length) 0 (by omega) (List.replicate (2 ^ l.length) 0) (List.length_replicate) (fun s hs => by omega) (fun s _ hs => by simp [rd, List.getD_eq_getElem?_getD, hs])
  have h := ap_l0 N h0 hN l hl hg _ hfin 6 0 (by omega) (by omega)
  rw [show upM N l 0 = [] by simp [upM, upB]] at h
  exact h

/-- Lists in ascending order. -/
theorem before_l0 (a b : List Int) (ha : a.length ≤ 1000) (hb : b.length ≤ 1000) : ∀ d i, i + d = a.length → Ev (fun k => remouldlaw05_before.l0 k a b i) (decide (cmpRows (a.drop i) (b.drop i) < 0)) := by
  intro d
  induction d with
  | zero =>
    intro i hi
    obtain rfl : i = a.length := by omega
    refine Ev.step (fun k => by rw [remouldlaw05_before.l0, if_neg (by omega)]) (Ev.step (fun k => ?_) (Ev.const _))
    rw [remouldlaw05_before.j1, if_neg (by decide), List.drop_length]
    by_cases h : a.length < b.length
    · rw [List.drop_eq_getElem_cons h, cmpRows, decide_eq_true (by omega), decide_eq_true (by omega)]
    · rw [List.drop_of_length_le (by omega), cmpRows, decide_eq_false (by omega), decide_eq_false (by omega)]
  | succ d ih =>
    intro i hi
    have hlt : i < a.length := by omega
    refine Ev.step (fun k => by rw [remouldlaw05_before.l0, if_pos (by omega)]) ?_
    by_cases h : i < b.length
    · rw [decide_eq_true (show (i : Int) < (b.length : Int) by omega)]
      have e1 : rd a (i : Int) = a[i] := by simp [rd, hlt]
      have e2 : rd b (i : Int) = b[i] := by simp [rd, h]
      have hst : cmpRows (a.drop i) (b.drop i) = if a[i] < b[i] then -1 else if b[i] < a[i] then 1 else cmpRows (a.drop (i + 1)) (b.drop (i + 1)) := by
        rw [List.drop_eq_getElem_cons hlt, List.drop_eq_getElem_cons h, cmpRows]
      by_cases he : a[i] = b[i]
      · rw [if_neg (by omega), if_neg (by omega)] at hst
        rw [hst]
        refine Ev.step (fun k => ?_) (ih (i + 1) (by omega))
        rw [remouldlaw05_before.j1, if_pos rfl, if_pos (by omega), if_pos (by omega), if_pos (by omega), e1, e2, if_pos he, wrap64_id _ (by omega) (by omega)]
        rfl
      · refine Ev.step (fun k => ?_) (Ev.const _)
        rw [remouldlaw05_before.j1, if_pos rfl, if_pos (by omega), if_pos (by omega), if_pos (by omega), e1, e2, if_neg he, hst]
        by_cases hl : a[i] < b[i]
        · rw [if_pos hl, decide_eq_true hl]; rfl
        · rw [if_neg hl, if_pos (by omega), decide_eq_false hl]; rfl
    · rw [decide_eq_false (show ¬ (i : Int) < (b.length : Int) by omega)]
      refine Ev.step (fun k => ?_) (Ev.const _)
      rw [remouldlaw05_before.j1, if_neg (by decide), List.drop_eq_getElem_cons hlt, List.drop_of_length_le (show b.length ≤ i by omega), cmpRows, decide_eq_false (by omega), decide_eq_false (by omega)]
theorem before_f (a b : List Int) (ha : a.length ≤ 1000) (hb : b.length ≤ 1000) : Ev (fun k => remouldlaw05_before.f k a b) (decide (cmpRows a b < 0)) := before_l0 a b ha hb a.length 0 (by omega)
theorem apart_rising (N : Nat) (l : List S46) : (apartB N l).Pairwise fun a b => cmpRows a b < 0 := by
  have h1 : (sortB (allB N l)).Pairwise fun a b => (!decide (cmpRows b a < 0)) = true := by
    refine List.pairwise_mergeSort (fun a b c => ?_) (fun a b => ?_) _
    · simp only [Bool.not_eq_true', decide_eq_false_iff_not]
      intro h1 h2
      exact cmpRows_neg h2 h1
    · simp only [Bool.or_eq_true, Bool.not_eq_true', decide_eq_false_iff_not]
      have := cmpRows_anti a b
      omega
  have h2 : (sortB (allB N l)).Nodup := (List.mergeSort_perm _ _).nodup_iff.2 (all_nodup N l)
  rw [List.nodup_iff_pairwise_ne] at h2
  refine List.Pairwise.sublist (apartB_sub N l) ((h1.and h2).imp ?_)
  rintro a b ⟨h3, h4⟩
  simp only [Bool.not_eq_true', decide_eq_false_iff_not] at h3
  have := cmpRows_anti a b
  have h5 : cmpRows a b ≠ 0 := fun e => h4 (cmpRows_eq e)
  omega
theorem laid_check {N : Int} {l : List S46} (hU : UpIn N l) : ∀ (cs : List (List Int)) (us us' : List (Int × Int)), (∀ p, p ∈ us' ↔ p ∈ us) → Laid us cs → (∀ c ∈ cs, CycIs l c) → checkB N l cs us' = true
  | [], _, _, _, _, _ => rfl
  | c :: cs, us, us', hu, ⟨h1, h2⟩, hc => by
    have hcy := hc c List.mem_cons_self
    rw [checkB, (isCycle_iff hU c).2 hcy, (freeB_iff us' _ (ends_nodup hcy)).2 (fun p hp hm => (disjB_iff _ _).1 h1 p hp ((hu p).1 hm)), laid_check hU cs _ _ (fun p => ?_) h2 (fun x hx => hc x (List.mem_cons_of_mem _ hx))]
    · rfl
    · rw [List.mem_append, List.mem_append, hu p, Or.comm]
theorem aparts_l0 (N : Nat) (l : List S46) (cs : List (List Int)) (hcs : ∀ c ∈ cs, c.length ≤ 100) (hlen : cs.length ≤ 12) (hr : cs.Pairwise fun a b => cmpRows a b < 0) (hck : belt_CheckG.f N l cs = some ((cs.length : Int), 0)) :
    ∀ d i, 1 ≤ i → i + d = max cs.length 1 → Ev (fun k => remouldlaw05_BeltAparts.l0 k N l cs i) true := by
  have haw : Ev (fun k => (remouldlaw05_awake.f k).bind fun t => some t) true := Ev.bind awake_f (Ev.const true)
  intro d
  induction d with
  | zero =>
    intro i h1 hi
    have b1 : Ev (fun _ : Nat => belt_CheckG.f N l cs) ((cs.length : Int), 0) := ⟨0, fun _ _ => hck⟩
    exact Ev.step (fun k => by rw [remouldlaw05_BeltAparts.l0, if_neg (by omega)]) (Ev.bind b1 (Ev.congr (fun k => if_pos rfl) (Ev.congr (fun k => if_pos rfl) haw)))
  | succ d ih =>
    intro i h1 hi
    have hlt : i < cs.length := by omega
    obtain ⟨j, rfl⟩ : ∃ j, i = j + 1 := ⟨i - 1, by omega⟩
    have hw : wrap64 (((j + 1 : Nat) : Int) - 1) = (j : Int) := by rw [wrap64_id _ (by omega) (by omega)]; omega
    have hlt2 : j < cs.length := by omega
    have hb := before_f cs[j] cs[j + 1] (by have := hcs _ (List.getElem_mem hlt2); omega) (by have := hcs _ (List.getElem_mem hlt); omega)
    rw [decide_eq_true ((List.pairwise_iff_getElem.1 hr) j (j + 1) hlt2 hlt (by omega))] at hb
    refine Ev.step (h := fun k => (remouldlaw05_before.f k cs[j] cs[j + 1]).bind fun t211 => (if t211 = true then (remouldlaw05_BeltAparts.l0 k N l cs ((j + 1 + 1 : Nat) : Int)) else (some false))) (fun k => ?_) (Ev.bind hb (Ev.congr (fun k => if_pos rfl) (ih (j + 1 + 1) (by omega) (by omega))))
    rw [remouldlaw05_BeltAparts.l0, if_pos (by omega), hw, if_pos (by omega), if_pos (by omega), if_pos (by omega), rd_L4_at cs j hlt2, rd_L4_at cs (j + 1) hlt, wrap64_id _ (by omega) (by omega)]
    rfl
theorem pureAparts (a0 : Int) (l1 : List S46) : ∃ k, remouldlaw05_BeltAparts.f k a0 l1 = some true := by
  apply Ev.get
  have hl : (l1.take 41).length ≤ 41 := by simp; omega
  have hg := graph_f a0 (l1.take 41) hl
  have e0 : Ev (fun _ : Nat => remouldlaw05_edges.f l1) (l1.take 41) := ⟨0, fun _ _ => edges_f l1⟩
  refine Ev.bind e0 ?_
  generalize l1.take 41 = x at hl hg
  have haw : Ev (fun k => (remouldlaw05_awake.f k).bind fun t => some t) true := Ev.bind awake_f (Ev.const true)
  have hbad : Ev (fun k => remouldlaw05_BeltAparts.j0 k a0 x [] 2 true) true := Ev.step (fun k => by rw [remouldlaw05_BeltAparts.j0, if_pos rfl, if_pos (show ((([] : List (List Int)).length : Nat) : Int) = 0 from rfl), if_pos rfl]) haw
  cases h : graphOk a0 x
  · rw [h] at hg
    have b1 : Ev (fun _ : Nat => belt_Apart.f a0 x) ([], 2) := ⟨0, fun _ _ => by rw [belt_Apart.f, h]; rfl⟩
    exact Ev.bind b1 (Ev.bind hg (Ev.congr (fun k => if_neg (by decide)) hbad))
  · rw [h] at hg
    obtain ⟨h0, hn⟩ := graphOk_n h
    by_cases hle : x.length ≤ 12
    · obtain ⟨N, rfl⟩ := Int.eq_ofNat_of_zero_le (show 0 ≤ a0 by omega)
      have hN : N ≤ 12 := by omega
      have h1N : 1 ≤ N := by omega
      have b1 : Ev (fun _ : Nat => belt_Apart.f N x) (apartB N x, 0) := ⟨0, fun _ _ => by rw [belt_Apart.f, h, decide_eq_true hle]; rfl⟩
      obtain ⟨k1, k2⟩ := apartB_is N x
      have hcy : ∀ c ∈ apartB N x, CycIs x c := fun c hc => (allB_cyc (k2 c hc)).1
      have hcl : ∀ c ∈ apartB N x, c.length ≤ 100 := fun c hc => by have := (allB_cyc (k2 c hc)).2.2.1; omega
      have hlen : (apartB N x).length ≤ 12 := by
        have h3 := laid_bound N 0 x _ k1 hcy
        have h4 : (x.countP fun e => !cutB N 0 e) ≤ x.length := List.countP_le_length
        omega
      have hU := upIn_of h
      have hck := laid_check hU _ [] [] (fun p => Iff.rfl) k1 hcy
      have hap := apart_f N x hU hl (apartB N x) (fun c hc => by have := hcl c hc; omega) (by omega)
      rw [hck] at hap
      have hchk : belt_CheckG.f N x (apartB N x) = some (((apartB N x).length : Int), 0) := by
        rw [belt_CheckG.f, if_pos ⟨by omega, by rw [List.all_eq_true]; intro c hc; exact decide_eq_true (hcl c hc)⟩, belt_Check.f, h, hck]; rfl
      refine Ev.bind b1 (Ev.bind hg (Ev.congr (fun k => if_pos rfl) ?_))
      rw [decide_eq_false (show ¬ ((x.length : Int) > 12) by omega)]
      refine Ev.step (h := fun k => (remouldref05_Apart.f k N x).bind fun t207 => (if ((apartB N x).length : Int) = t207 then ((remouldref05_IsApart.f k x (apartB N x)).bind fun t208 => (remouldlaw05_BeltAparts.j1 k N x (apartB N x) (!t208))) else (remouldlaw05_BeltAparts.j1 k N x (apartB N x) true))) (fun k => by rw [remouldlaw05_BeltAparts.j0, if_neg (by decide), if_pos rfl]) ?_
      refine Ev.bind (refApart_f N h1N hN x hle h) (Ev.congr (fun k => if_pos rfl) (Ev.bind hap ?_))
      refine Ev.step (h := fun k => remouldlaw05_BeltAparts.l0 k N x (apartB N x) 1) (fun k => by rw [remouldlaw05_BeltAparts.j1, if_neg (by decide)]) ?_
      exact aparts_l0 N x (apartB N x) hcl hlen (apart_rising N x) hchk (max (apartB N x).length 1 - 1) 1 (by omega) (by omega)
    · have b1 : Ev (fun _ : Nat => belt_Apart.f a0 x) ([], 2) := ⟨0, fun _ _ => by rw [belt_Apart.f, h, decide_eq_false hle]; rfl⟩
      refine Ev.bind b1 (Ev.bind hg (Ev.congr (fun k => if_pos rfl) ?_))
      rw [decide_eq_true (show ((x.length : Int) > 12) by omega)]
      exact hbad
end Go.Proofs.Ytkefmlhkejoknab.L
