import Derived.Test.YtkefmlhkejoknaaP3
import Derived.Test.YtkefmlhkejoknaaL6
import Derived.Test.YtkefmlhkejoknaaXClimb

/- Plain law: strings and sides; flips; gains. -/
namespace Go.Proofs.Ytkefmlhkejoknaa.L
set_option linter.unusedVariables false
set_option linter.unusedSimpArgs false
open Go.RowKit Go.Proofs.YtkefmlhkejoknaaW.PrintWords Go.Proofs.YtkefmlhkejoknaaW.PrintLast Go.Proofs.YtkefmlhkejoknaaW.PrintMore

/-- A string is cut as the law cuts it. -/
def cut13 (t : ByteArray) : ByteArray := t.extract 0 (min t.size 13)
theorem brief_f (t : ByteArray) : remouldlaw05_brief.f t = some (cut13 t) := by
  unfold remouldlaw05_brief.f mn cut13
  by_cases h : 13 < (t.size : Int)
  · rw [if_pos h, if_pos (by omega), if_pos (by omega)]
    congr 2
    omega
  · rw [if_neg h, if_pos (by omega), if_pos (by omega)]
    congr 2
    omega
theorem cut13_size (t : ByteArray) : (cut13 t).size ≤ 13 := by
  unfold cut13
  rw [ByteArray.size_extract]; omega

theorem hasB_flip (N s i : Nat) (hi : i < N) (v : Int) (h0 : 0 ≤ v) (h1 : v < N) : hasB N (s ^^^ 2 ^ ((N : Int) - 1 - (i : Int)).toNat) v = (hasB N s v != decide (v = (i : Int))) := by
  unfold hasB
  rw [Nat.testBit_xor, Nat.testBit_two_pow]
  by_cases e : v = (i : Int)
  · subst e; simp
  · rw [decide_eq_false e, decide_eq_false (by omega)]
theorem gain_flip (N s i : Nat) (hi : i < N) (l : List S49) (hl : ∀ e ∈ l, 0 ≤ e.f0 ∧ e.f0 < N ∧ 0 ≤ e.f1 ∧ e.f1 < N ∧ e.f0 ≠ e.f1) : valB N (s ^^^ 2 ^ ((N : Int) - 1 - (i : Int)).toNat) l - valB N s l = gainB N s i l := by
  induction l with
  | nil => rfl
  | cons e l ih =>
    have h := hl e List.mem_cons_self
    have ih' := ih (fun x hx => hl x (List.mem_cons_of_mem _ hx))
    have hc : cutB N (s ^^^ 2 ^ ((N : Int) - 1 - (i : Int)).toNat) e = (cutB N s e != decide (e.f0 = (i : Int) ∨ e.f1 = (i : Int))) := by
      unfold cutB
      rw [hasB_flip N s i hi _ h.1 h.2.1, hasB_flip N s i hi _ h.2.2.1 h.2.2.2.1]
      have hne := h.2.2.2.2
      by_cases a : e.f0 = (i : Int)
      · have b : ¬ e.f1 = (i : Int) := fun b => hne (a.trans b.symm)
        rw [decide_eq_true a, decide_eq_false b, decide_eq_true (Or.inl a)]
        cases hasB N s e.f0 <;> cases hasB N s e.f1 <;> rfl
      · by_cases b : e.f1 = (i : Int)
        · rw [decide_eq_false a, decide_eq_true b, decide_eq_true (Or.inr b)]
          cases hasB N s e.f0 <;> cases hasB N s e.f1 <;> rfl
        · rw [decide_eq_false a, decide_eq_false b, decide_eq_false (by rintro (h | h); exact a h; exact b h)]
          cases hasB N s e.f0 <;> cases hasB N s e.f1 <;> rfl
    generalize s ^^^ 2 ^ ((N : Int) - 1 - (i : Int)).toNat = T at ih' hc
    rw [valB, valB, gainB, hc]
    by_cases p : e.f0 = (i : Int) ∨ e.f1 = (i : Int)
    · rw [if_pos p, decide_eq_true p]
      cases cutB N s e <;> simp only [Bool.bne_true, Bool.not_false, Bool.not_true, if_true, if_false, Bool.false_eq_true] <;> omega
    · rw [if_neg p, decide_eq_false p]
      cases cutB N s e <;> simp only [Bool.bne_false, if_true, if_false, Bool.false_eq_true] <;> omega

end Go.Proofs.Ytkefmlhkejoknaa.L

/- Plain law: strings that are sides, Flip and Gains, as the reference tells them. -/
namespace Go.Proofs.Ytkefmlhkejoknaa.L
set_option linter.unusedVariables false
set_option linter.unusedSimpArgs false
open Go.RowKit Go.Proofs.YtkefmlhkejoknaaW.PrintWords Go.Proofs.YtkefmlhkejoknaaW.PrintLast Go.Proofs.YtkefmlhkejoknaaW.PrintMore

theorem bt_is (t : ByteArray) (i : Nat) (h : i < t.size) (c : UInt8) : bt t (i : Int) = (c.toNat : Int) ↔ t[i] = c := by
  have hb := bt_at t (i : Int) (by simpa using h)
  simp only [Int.toNat_natCast] at hb
  rw [← hb]
  constructor
  · intro e; apply UInt8.toNat_inj.1; omega
  · intro e; rw [e]
theorem side_l0 (n : Int) (t : ByteArray) (hs : t.size ≤ 1000) : ∀ d i : Nat, i + d = t.size → charsOk t i → Ev (fun k => remouldref05_Side.l0 k n t (i : Int)) (sideOk n t) := by
  intro d
  induction d with
  | zero =>
    intro i hi h
    obtain rfl : i = t.size := by omega
    rw [sideOk_end n t h]
    exact Ev.step (fun k => by rw [remouldref05_Side.l0, if_neg (by omega)]) (Ev.const _)
  | succ d ih =>
    intro i hi h
    have hlt : i < t.size := by omega
    have h48 : bt t (i : Int) = 48 ↔ t[i] = 48 := bt_is t i hlt 48
    have h49 : bt t (i : Int) = 49 ↔ t[i] = 49 := bt_is t i hlt 49
    have hat := at_byte t i hlt
    have hnext : t[i] = 48 ∨ t[i] = 49 → charsOk t (i + 1) := fun hc j hj => by
      by_cases e : j = i
      · subst e; rcases hc with hc | hc
        · exact .inl (by rw [hat, hc])
        · exact .inr (by rw [hat, hc])
      · exact h j (by omega)
    by_cases c0 : t[i] = 48
    · exact Ev.step (fun k => by rw [remouldref05_Side.l0, if_pos (by omega), if_pos (by omega), if_pos (h48.2 c0), wrap64_id _ (by omega) (by omega)]; rfl) (ih (i + 1) (by omega) (hnext (.inl c0)))
    · by_cases c1 : t[i] = 49
      · exact Ev.step (fun k => by rw [remouldref05_Side.l0, if_pos (by omega), if_pos (by omega), if_neg (fun e => c0 (h48.1 e)), if_pos (h49.2 c1), wrap64_id _ (by omega) (by omega)]; rfl) (ih (i + 1) (by omega) (hnext (.inr c1)))
      · rw [sideOk_bad n t i hlt c0 c1]
        exact Ev.step (fun k => by rw [remouldref05_Side.l0, if_pos (by omega), if_pos (by omega), if_neg (fun e => c0 (h48.1 e)), if_neg (fun e => c1 (h49.1 e))]) (Ev.const false)
theorem side_f (n : Int) (t : ByteArray) (hs : t.size ≤ 1000) : Ev (fun k => remouldref05_Side.f k n t) (sideOk n t) :=
  side_l0 n t hs t.size 0 (by omega) (fun j hj => by omega)

theorem has_num (N : Nat) (t : ByteArray) (k : Nat) (hk : k ≤ N) (v : Nat) (hv : v < N) : hasB N (numB N t k) (v : Int) = decide (v < k ∧ t.data.toList[v]? = some 49) := by
  induction k with
  | zero => simp [numB, hasB]
  | succ k ih =>
    have ih' := ih (by omega)
    rw [numB]
    by_cases hc : t.data.toList[k]? = some 49
    · rw [if_pos hc]
      unfold hasB at ih' ⊢
      rw [Nat.testBit_or, ih', Nat.testBit_two_pow]
      by_cases e : v = k
      · subst e
        simp [hc]
      · have h1 : ((N : Int) - 1 - (k : Int)).toNat ≠ ((N : Int) - 1 - (v : Int)).toNat := by omega
        simp only [h1, decide_false, Bool.or_false]
        congr 1
        simp only [eq_iff_iff]
        constructor
        · rintro ⟨a, b⟩; exact ⟨by omega, b⟩
        · rintro ⟨a, b⟩; exact ⟨by omega, b⟩
    · rw [if_neg hc, ih']
      congr 1
      simp only [eq_iff_iff]
      constructor
      · rintro ⟨a, b⟩; exact ⟨by omega, b⟩
      · rintro ⟨a, b⟩
        refine ⟨?_, b⟩
        by_cases e : v = k
        · subst e; exact absurd b hc
        · omega
theorem side_text (N : Nat) (t : ByteArray) (h : sideOk N t = true) : textB N (numB N t t.size) = t := by
  unfold sideOk at h
  simp only [Bool.and_eq_true, decide_eq_true_eq] at h
  obtain ⟨hs, hall⟩ := h
  have hN : t.size = N := by omega
  have hlen : t.data.toList.length = N := by rw [← hN]; rfl
  rw [List.all_eq_true] at hall
  have e : charsB (N : Int) (numB N t t.size) = t.data.toList := by
    apply List.ext_getElem
    · simp [charsB]; exact hlen.symm
    · intro v h1 h2
      have hv : v < N := by rw [hlen] at h2; exact h2
      have hb := has_num N t t.size (by omega) v hv
      have hc := hall _ (List.getElem_mem h2)
      simp only [charsB, Int.toNat_natCast, List.getElem_map, List.getElem_range]
      rw [hb, List.getElem?_eq_getElem h2, hN]
      simp only [Bool.or_eq_true, beq_iff_eq] at hc
      rcases hc with hc | hc <;> simp [hc, hv]
  unfold textB
  rw [e]

end Go.Proofs.Ytkefmlhkejoknaa.L
