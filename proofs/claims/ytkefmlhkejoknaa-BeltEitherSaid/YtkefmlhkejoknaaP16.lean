import Derived.Test.YtkefmlhkejoknaaXOdd
import Derived.Test.YtkefmlhkejoknaaL9
import Derived.Test.YtkefmlhkejoknaaP14

/- Plain law: the reference's cycles. -/
namespace Go.Proofs.Ytkefmlhkejoknaa.L
set_option linter.unusedVariables false
set_option linter.unusedSimpArgs false
open Go.RowKit Go.Proofs.YtkefmlhkejoknaaW.PrintWords Go.Proofs.YtkefmlhkejoknaaW.PrintLast Go.Proofs.YtkefmlhkejoknaaW.PrintMore

/-- All of them, or the first one. -/
def pk (one : Bool) (xs : List (List Int)) : List (List Int) := if one then xs.take 1 else xs
theorem pk_append {one : Bool} {a b : List (List Int)} (h : one = true → a = []) : pk one (a ++ b) = pk one a ++ pk one b := by
  cases one
  · rfl
  · rw [h rfl]; rfl
theorem pk_stop {a b : List (List Int)} (hp : a <+: b) (hne : a ≠ []) : pk true a = pk true b := by
  obtain ⟨t, rfl⟩ := hp
  cases a with
  | nil => exact absurd rfl hne
  | cons x a => rfl
/-- How many there are at most. -/
theorem cyc_len (n : Int) (l : List S49) (size : Nat) (hn : n ≤ 12) : ∀ (d : Nat) (p : List Int), p ≠ [] → 0 ≤ rd p ((0 : Nat) : Int) → (cycB n l size d p).length ≤ 11 ^ d := by
  intro d
  induction d with
  | zero => intro p _ _; rw [cycB]; split <;> simp
  | succ d ih =>
    intro p hne h0
    have hx := cycB_step n l size d p _ _ hne rfl rfl
    rw [hx]
    have key : ∀ k, (stepTo n l size d p (rd p ((0 : Nat) : Int)) (rd p ((p.length - 1 : Nat) : Int)) k).length ≤ k * 11 ^ d := by
      intro k
      induction k with
      | zero => simp [stepTo]
      | succ k ihk =>
        rw [stepTo_succ, List.length_append, Nat.succ_mul]
        have h2 : (if joinedB l (rd p ((p.length - 1 : Nat) : Int)) (rd p ((0 : Nat) : Int) + 1 + (k : Int)) && !p.contains (rd p ((0 : Nat) : Int) + 1 + (k : Int)) then cycB n l size d (p ++ [rd p ((0 : Nat) : Int) + 1 + (k : Int)]) else []).length ≤ 11 ^ d := by
          split
          · refine ih _ (by simp) ?_
            rw [rd_snoc p _ 0 (List.length_pos_iff.2 hne)]; exact h0
          · simp
        omega
    have h1 := key (n - (rd p ((0 : Nat) : Int) + 1)).toNat
    have h2 : (n - (rd p ((0 : Nat) : Int) + 1)).toNat ≤ 11 := by omega
    have h3 := Nat.mul_le_mul_right (11 ^ d) h2
    rw [Nat.pow_succ, Nat.mul_comm]
    exact Nat.le_trans h1 h3
theorem pk_len (one : Bool) (a : List (List Int)) : (pk one a).length ≤ a.length := by
  unfold pk; split
  · simp; omega
  · exact Nat.le_refl _

section
variable (N : Nat) (hN : N ≤ 12) (l : List S49) (hl : l.length ≤ 41) (size : Nat) (hs3 : 3 ≤ size) (hs12 : size ≤ 12) (hodd : size % 2 = 1) (one : Bool)
include hl
theorem edge_ev (a b : Int) : Ev (fun _ : Nat => remouldref05_edge.f l a b) (edgeAt l a b) := ⟨0, fun _ _ => by rw [remouldref05_edge.f, if_pos (by omega)]⟩
include hs3 hs12 hodd
/-- A list of the full length. -/
theorem cycles_leaf (p : List Int) (hp : PathIs l p) (hlen : p.length = size) : Ev (fun k => remouldref05_cycles.f k N l p size one) (pk one (cycB N l size 0 p)) := by
  have hli := leaf_iff hp (by omega) (by omega)
  have hc0 : cycB N l size 0 p = if rd p 1 > rd p ((p.length - 1 : Nat) : Int) ∨ joinedB l (rd p 0) (rd p ((p.length - 1 : Nat) : Int)) = false then [] else [p] := by
    have e0 : p.headD 0 = rd p 0 := by obtain ⟨hne, _⟩ := hp; cases p <;> simp [rd]
    rw [cycB, e0, getLast_getD, ← rd_getD, ← rd_getD]
    simp only [Bool.or_eq_true, decide_eq_true_eq, Bool.not_eq_true']
    rfl
  by_cases h : CycIs l p
  · obtain ⟨s, _, hs⟩ := cycle_yes hl (by omega) h
    have e1 : Ev (fun _ : Nat => remouldref05_Cycle.f l p) ((s : Int), true) := ⟨0, fun _ _ => hs⟩
    refine Ev.step (fun k => by rw [remouldref05_cycles.f, if_pos (by omega)]) (Ev.bind e1 ?_)
    rw [hc0, if_neg (hli.1 h)]
    refine Ev.congr (fun k => if_pos rfl) ?_
    have : pk one [p] = [p] := by cases one <;> rfl
    rw [this]; exact Ev.const _
  · have hs := cycle_no hl (by omega) h
    have e1 : Ev (fun _ : Nat => remouldref05_Cycle.f l p) ((0 : Int), false) := ⟨0, fun _ _ => hs⟩
    refine Ev.step (fun k => by rw [remouldref05_cycles.f, if_pos (by omega)]) (Ev.bind e1 ?_)
    have hb : rd p 1 > rd p ((p.length - 1 : Nat) : Int) ∨ joinedB l (rd p 0) (rd p ((p.length - 1 : Nat) : Int)) = false := by
      by_cases hb : rd p 1 > rd p ((p.length - 1 : Nat) : Int) ∨ joinedB l (rd p 0) (rd p ((p.length - 1 : Nat) : Int)) = false
      · exact hb
      · exact absurd (hli.2 hb) h
    rw [hc0, if_pos hb]
    refine Ev.congr (fun k => if_neg (by decide)) ?_
    have : pk one [] = [] := by cases one <;> rfl
    rw [this]; exact Ev.const _
omit hs3 hs12 hodd hl
/-- The inner loop: a vertex is free. -/
theorem cycles_free (p out : List (Int)) (hpl : p.length ≤ 1000) (acc : List (List Int)) (x : Nat) (r : List (List Int)) (hr : Ev (fun k => if decide ((x : Int) ∉ p) = true then (if ([] : List Int).length + p.length < 17592186044416 then ((some (([] : List Int) ++ p : List Int)).bind fun y228 => (if y228.length < 17592186044416 then ((remouldref05_cycles.f k N l (y228 ++ [(x : Int)]) size one).bind fun t234 => (if acc.length + t234.length < 5864062014805 then (remouldref05_cycles.l0 k N l p size one (acc ++ t234) (wrap64 ((x : Int) + 1))) else (none))) else (none))) else (none)) else (remouldref05_cycles.l0 k N l p size one acc (wrap64 ((x : Int) + 1)))) r) :
    ∀ d i : Nat, i + d = p.length → Ev (fun k => remouldref05_cycles.l1 k N l p size one acc x (decide ((x : Int) ∉ p.take i)) i) r := by
  intro d
  induction d with
  | zero =>
    intro i hi
    obtain rfl : i = p.length := by omega
    rw [List.take_of_length_le (Nat.le_refl _)]
    refine Ev.step (fun k => by rw [remouldref05_cycles.l1, if_neg (by omega)]) hr
  | succ d ih =>
    intro i hi
    have hlt : i < p.length := by omega
    have ih' := ih (i + 1) (by omega)
    have hrd : rd p (i : Int) = p[i] := by rw [rd_getD, List.getD_eq_getElem?_getD, List.getElem?_eq_getElem hlt]; rfl
    by_cases c : (x : Int) ∉ p.take i
    · rw [decide_eq_true c]
      have e : decide ((x : Int) ∉ p.take (i + 1)) = (rd p (i : Int) != (x : Int)) := by
        rw [List.take_succ_eq_append_getElem hlt, hrd]
        by_cases hh : p[i] = (x : Int)
        · rw [hh]; simp
        · rw [bne_iff_ne.2 hh, decide_eq_true]
          rw [List.mem_append, not_or]
          exact ⟨c, by simpa using fun h => hh h.symm⟩
      rw [e] at ih'
      exact Ev.step (fun k => by rw [remouldref05_cycles.l1, if_pos (by omega), if_pos rfl, if_pos (by omega), wrap64_id _ (by omega) (by omega)]; rfl) ih'
    · rw [decide_eq_false c]
      have e : decide ((x : Int) ∉ p.take (i + 1)) = false := by
        apply decide_eq_false
        intro h; apply c; intro hm; apply h
        rw [List.take_succ_eq_append_getElem hlt]
        exact List.mem_append_left _ hm
      rw [e] at ih'
      exact Ev.step (fun k => by rw [remouldref05_cycles.l1, if_pos (by omega), if_neg (by decide), wrap64_id _ (by omega) (by omega)]; rfl) ih'
include hN hl hs3 hs12 hodd
/-- Cycles that go on from a list of vertices. -/
theorem cycles_f : ∀ (d : Nat) (p : List Int), PathIs l p → p.length + d = size → 0 ≤ rd p ((0 : Nat) : Int) → Ev (fun k => remouldref05_cycles.f k N l p size one) (pk one (cycB N l size d p)) := by
  intro d
  induction d with
  | zero => intro p hp hlen _; exact cycles_leaf N l hl size hs3 hs12 hodd one p hp (by omega)
  | succ d ih =>
    intro p hp hlen h0
    have hne := hp.1
    have hpos : 0 < p.length := List.length_pos_iff.2 hne
    have hstep := cycB_step N l size d p _ _ hne rfl rfl
    generalize hx0 : rd p ((0 : Nat) : Int) = x0 at hstep h0
    generalize hxl : rd p ((p.length - 1 : Nat) : Int) = xl at hstep
    have hx0' : rd p 0 = x0 := hx0
    have hlast : rd p (wrap64 ((p.length : Int) - 1)) = xl := by
      rw [wrap64_id _ (by omega) (by omega), ← hxl]; congr 1; omega
    have hlen11 : ∀ j, j ≤ N → (stepTo N l size d p x0 xl ((j : Int) - (x0 + 1)).toNat).length ≤ 11 * 11 ^ d := by
      intro j hj
      have h1 := cyc_len N l size (by omega) (d + 1) p hne (by rw [hx0]; exact h0)
      rw [hstep, Nat.pow_succ, Nat.mul_comm] at h1
      have h2 := (stepTo_le N l size d p x0 xl ((j : Int) - (x0 + 1)).toNat (((N : Int) - (x0 + 1)).toNat - ((j : Int) - (x0 + 1)).toNat)).length_le
      rw [show ((j : Int) - (x0 + 1)).toNat + (((N : Int) - (x0 + 1)).toNat - ((j : Int) - (x0 + 1)).toNat) = ((N : Int) - (x0 + 1)).toNat by omega] at h2
      exact Nat.le_trans h2 h1
    have hpow : 11 ^ d ≤ 11 ^ 10 := Nat.pow_le_pow_right (by omega) (by omega)
    have hloop : ∀ e j : Nat, j + e = N → Ev (fun k => remouldref05_cycles.l0 k N l p size one (pk one (stepTo N l size d p x0 xl ((j : Int) - (x0 + 1)).toNat)) j) (pk one (stepTo N l size d p x0 xl ((N : Int) - (x0 + 1)).toNat)) := by
      intro e
      induction e with
      | zero =>
        intro j hj
        obtain rfl : j = N := by omega
        refine Ev.step (fun k => by rw [remouldref05_cycles.l0, if_neg (by omega)]) ?_
        exact Ev.step (fun k => by rw [remouldref05_cycles.j1, if_neg (by decide)]) (Ev.const _)
      | succ e ihe =>
        intro j hj
        have ihe' := ihe (j + 1) (by omega)
        have hmore : ((one = true → stepTo N l size d p x0 xl ((j : Int) - (x0 + 1)).toNat = []) → Ev (fun k => remouldref05_cycles.j1 k N l p size one (pk one (stepTo N l size d p x0 xl ((j : Int) - (x0 + 1)).toNat)) j true) (pk one (stepTo N l size d p x0 xl ((N : Int) - (x0 + 1)).toNat))) := by
          intro hemp
          by_cases cx : (j : Int) ≤ x0
          · have hsame : (((j + 1 : Nat) : Int) - (x0 + 1)).toNat = ((j : Int) - (x0 + 1)).toNat := by omega
            rw [hsame] at ihe'
            refine Ev.step (fun k => by rw [remouldref05_cycles.j1, if_pos rfl, if_pos (by omega), if_pos (by omega), hx0', if_pos cx]) ?_
            exact Ev.step (fun k => by rw [remouldref05_cycles.j2, if_pos rfl, wrap64_id _ (by omega) (by omega)]; rfl) ihe'
          · have hk : (((j + 1 : Nat) : Int) - (x0 + 1)).toNat = ((j : Int) - (x0 + 1)).toNat + 1 := by omega
            have hv : x0 + 1 + ((((j : Int) - (x0 + 1)).toNat : Nat) : Int) = (j : Int) := by omega
            have hsucc := stepTo_succ N l size d p x0 xl ((j : Int) - (x0 + 1)).toNat
            rw [hv] at hsucc
            rw [hk, hsucc] at ihe'
            refine Ev.step (h := fun k => (remouldref05_edge.f l xl (j : Int)).bind fun t226 => (remouldref05_cycles.j2 k N l p size one (pk one (stepTo N l size d p x0 xl ((j : Int) - (x0 + 1)).toNat)) j (decide (t226 < 0)))) (fun k => by rw [remouldref05_cycles.j1, if_pos rfl, if_pos (by omega), if_pos (by omega), hx0', if_neg cx, if_pos (by rw [wrap64_id _ (by omega) (by omega)]; omega), if_pos (by rw [wrap64_id _ (by omega) (by omega)]; omega), hlast]) ?_
            refine Ev.bind (edge_ev l hl xl j) ?_
            have hej := edgeAt_joined l xl (j : Int)
            by_cases cj : joinedB l xl (j : Int) = true
            · have hge := hej.2 cj
              rw [decide_eq_false (by omega)]
              refine Ev.step (fun k => by rw [remouldref05_cycles.j2, if_neg (by decide)]) ?_
              refine cycles_free N l size one p p (by omega) _ j _ ?_ p.length 0 (by omega)
              by_cases cf : (j : Int) ∉ p
              · rw [decide_eq_true cf]
                have hcond : (joinedB l xl (j : Int) && !p.contains (j : Int)) = true := by
                  rw [cj, Bool.true_and, Bool.not_eq_true', Bool.eq_false_iff]; intro h; exact cf (by simpa using h)
                rw [if_pos hcond] at hsucc ihe'
                have hp' : PathIs l (p ++ [(j : Int)]) := hp.snoc (by rw [hxl]; exact cj) (by rw [hx0']; omega) cf
                have hh0 : rd (p ++ [(j : Int)]) ((0 : Nat) : Int) = x0 := by rw [rd_snoc p _ 0 hpos]; exact hx0
                have hin := ih (p ++ [(j : Int)]) hp' (by simp; omega) (by rw [hh0]; exact h0)
                rw [pk_append hemp] at ihe'
                refine Ev.congr (fun k => if_pos rfl) ?_
                refine Ev.congr (fun k => if_pos (by simp; omega)) ?_
                refine Ev.congr (h := fun k => (remouldref05_cycles.f k N l (p ++ [(j : Int)]) size one).bind fun t234 => (if (pk one (stepTo N l size d p x0 xl ((j : Int) - (x0 + 1)).toNat)).length + t234.length < 5864062014805 then (remouldref05_cycles.l0 k N l p size one ((pk one (stepTo N l size d p x0 xl ((j : Int) - (x0 + 1)).toNat)) ++ t234) (wrap64 ((j : Int) + 1))) else none)) (fun k => by
                  rw [Option.bind_some, if_pos (by simp; omega), List.nil_append]) ?_
                refine Ev.bind hin ?_
                have b1 := hlen11 j (by omega)
                have b2 := pk_len one (stepTo N l size d p x0 xl ((j : Int) - (x0 + 1)).toNat)
                have b3 := pk_len one (cycB N l size d (p ++ [(j : Int)]))
                have b4 := cyc_len N l size (by omega) d (p ++ [(j : Int)]) (by simp) (by rw [hh0]; exact h0)
                refine Ev.congr (fun k => ?_) ihe'
                rw [if_pos (by omega), wrap64_id _ (by omega) (by omega)]
                rfl
              · rw [decide_eq_false cf]
                have hcond : (joinedB l xl (j : Int) && !p.contains (j : Int)) = false := by
                  rw [cj, Bool.true_and]
                  have : p.contains (j : Int) = true := by
                    rw [List.contains_iff_mem]
                    exact Classical.byContradiction fun h => cf h
                  rw [this]; rfl
                rw [hcond, if_neg (by decide), List.append_nil] at ihe'
                refine Ev.congr (fun k => if_neg (by decide)) ?_
                exact Ev.congr (fun k => by rw [wrap64_id _ (by omega) (by omega)]; rfl) ihe'
            · have hlt0 : edgeAt l xl (j : Int) < 0 := by
                rcases Int.lt_or_le (edgeAt l xl (j : Int)) 0 with h | h
                · exact h
                · exact absurd (hej.1 h) cj
              have hcond : (joinedB l xl (j : Int) && !p.contains (j : Int)) = false := by
                cases h : joinedB l xl (j : Int)
                · rfl
                · exact absurd h cj
              rw [hcond, if_neg (by decide), List.append_nil] at ihe'
              rw [decide_eq_true hlt0]
              exact Ev.step (fun k => by rw [remouldref05_cycles.j2, if_pos rfl, wrap64_id _ (by omega) (by omega)]; rfl) ihe'
        cases hone : one
        · subst hone
          refine Ev.step (fun k => by rw [remouldref05_cycles.l0, if_pos (by omega), if_neg (by decide)]) ?_
          exact hmore (fun h => by cases h)
        · subst hone
          refine Ev.step (fun k => by rw [remouldref05_cycles.l0, if_pos (by omega), if_pos rfl]) ?_
          by_cases hemp : stepTo N l size d p x0 xl ((j : Int) - (x0 + 1)).toNat = []
          · have := hmore (fun _ => hemp)
            have hz : (((pk true (stepTo N l size d p x0 xl ((j : Int) - (x0 + 1)).toNat)).length : Int) == 0) = true := by rw [hemp]; rfl
            rw [hz]; exact this
          · have hpre := stepTo_le N l size d p x0 xl ((j : Int) - (x0 + 1)).toNat (((N : Int) - (x0 + 1)).toNat - ((j : Int) - (x0 + 1)).toNat)
            rw [show ((j : Int) - (x0 + 1)).toNat + (((N : Int) - (x0 + 1)).toNat - ((j : Int) - (x0 + 1)).toNat) = ((N : Int) - (x0 + 1)).toNat by omega] at hpre
            have hz : (((pk true (stepTo N l size d p x0 xl ((j : Int) - (x0 + 1)).toNat)).length : Int) == 0) = false := by
              cases hh : stepTo N l size d p x0 xl ((j : Int) - (x0 + 1)).toNat with
              | nil => exact absurd hh hemp
              | cons a b => simp [pk]
            rw [hz, pk_stop hpre hemp]
            exact Ev.step (fun k => by rw [remouldref05_cycles.j1, if_neg (by decide)]) (Ev.const _)
    have h1 := hloop N 0 (by omega)
    rw [show ((0 : Nat) : Int) - (x0 + 1) = -(x0 + 1) by omega, show (-(x0 + 1)).toNat = 0 by omega] at h1
    rw [hstep]
    refine Ev.step (fun k => by rw [remouldref05_cycles.f, if_neg (by omega)]) ?_
    have hz : pk one (stepTo N l size d p x0 xl 0) = [] := by cases one <;> rfl
    rw [hz] at h1
    exact h1
end

end Go.Proofs.Ytkefmlhkejoknaa.L

/- Plain law: the first one of the shortest odd cycles; the law BeltOdds. -/
namespace Go.Proofs.Ytkefmlhkejoknaa.L
set_option linter.unusedVariables false
set_option linter.unusedSimpArgs false
open Go.RowKit Go.Proofs.YtkefmlhkejoknaaW.PrintWords Go.Proofs.YtkefmlhkejoknaaW.PrintLast Go.Proofs.YtkefmlhkejoknaaW.PrintMore

theorem cyc_mem_len (n : Int) (l : List S49) (size : Nat) : ∀ (d : Nat) (p x : List Int), p ≠ [] → x ∈ cycB n l size d p → x.length = p.length + d := by
  intro d
  induction d with
  | zero =>
    intro p x _ hx
    rw [cycB] at hx
    split at hx
    · simp at hx
    · simp at hx; subst hx; rfl
  | succ d ih =>
    intro p x hne hx
    rw [cycB_step n l size d p _ _ hne rfl rfl, List.mem_flatMap] at hx
    obtain ⟨v, _, hv⟩ := hx
    split at hv
    · have := ih _ x (by simp) hv
      simp at this; omega
    · simp at hv
theorem cycles_mem_len {n : Int} {l : List S49} {size : Nat} {x : List Int} (h3 : 3 ≤ size) (hx : x ∈ cyclesB n l size) : x.length = size := by
  unfold cyclesB at hx
  rw [List.mem_flatMap] at hx
  obtain ⟨v, _, hv⟩ := hx
  have := cyc_mem_len n l size _ _ x (by simp) hv
  simp at this; omega
theorem cycTo_len (n : Int) (l : List S49) (size : Nat) (hn : n ≤ 12) (k : Nat) : (cycTo n l size k).length ≤ k * 11 ^ (size - 1) := by
  induction k with
  | zero => simp [cycTo]
  | succ k ih =>
    rw [cycTo_succ, List.length_append, Nat.succ_mul]
    have := cyc_len n l size hn (size - 1) [(k : Int)] (by simp) (by show (0 : Int) ≤ (k : Int); omega)
    omega
/-- All cycles of a length, or the first one. -/
theorem cycles_top (N : Nat) (hN : N ≤ 12) (l : List S49) (hl : l.length ≤ 41) (size : Nat) (hs3 : 3 ≤ size) (hs12 : size ≤ 12) (hodd : size % 2 = 1) (one : Bool) :
    Ev (fun k => remouldref05_cycles.f k N l [] size one) (pk one (cyclesB N l size)) := by
  have hpow : 11 ^ (size - 1) ≤ 11 ^ 10 := Nat.pow_le_pow_right (by omega) (by omega)
  have hloop : ∀ e j : Nat, j + e = N → Ev (fun k => remouldref05_cycles.l0 k N l [] size one (pk one (cycTo N l size j)) j) (pk one (cycTo N l size N)) := by
    intro e
    induction e with
    | zero =>
      intro j hj
      obtain rfl : j = N := by omega
      refine Ev.step (fun k => by rw [remouldref05_cycles.l0, if_neg (by omega)]) ?_
      exact Ev.step (fun k => by rw [remouldref05_cycles.j1, if_neg (by decide)]) (Ev.const _)
    | succ e ihe =>
      intro j hj
      have ihe' := ihe (j + 1) (by omega)
      have hmore : ((one = true → cycTo N l size j = []) → Ev (fun k => remouldref05_cycles.j1 k N l [] size one (pk one (cycTo N l size j)) j true) (pk one (cycTo N l size N))) := by
        intro hemp
        rw [cycTo_succ, pk_append hemp] at ihe'
        refine Ev.step (fun k => by rw [remouldref05_cycles.j1, if_pos rfl, if_neg (by simp)]) ?_
        refine Ev.step (fun k => by rw [remouldref05_cycles.j2, if_neg (by decide)]) ?_
        refine Ev.step (fun k => by rw [remouldref05_cycles.l1, if_neg (by simp), if_pos rfl, if_pos (by simp), Option.bind_some, if_pos (by simp)]) ?_
        have hin := cycles_f N hN l hl size hs3 hs12 hodd one (size - 1) [(j : Int)] (PathIs.one l _) (by simp; omega) (by show (0 : Int) ≤ (j : Int); omega)
        refine Ev.bind hin ?_
        have b1 := cycTo_len N l size (by omega) j
        have b2 := pk_len one (cycTo N l size j)
        have b3 := pk_len one (cycB N l size (size - 1) [(j : Int)])
        have b4 := cyc_len N l size (by omega) (size - 1) [(j : Int)] (by simp) (by show (0 : Int) ≤ (j : Int); omega)
        have b5 : j * 11 ^ (size - 1) ≤ 12 * 11 ^ 10 := Nat.mul_le_mul (by omega) hpow
        refine Ev.congr (fun k => ?_) ihe'
        rw [if_pos (by omega), wrap64_id _ (by omega) (by omega)]
        rfl
      cases hone : one
      · subst hone
        refine Ev.step (fun k => by rw [remouldref05_cycles.l0, if_pos (by omega), if_neg (by decide)]) ?_
        exact hmore (fun h => by cases h)
      · subst hone
        refine Ev.step (fun k => by rw [remouldref05_cycles.l0, if_pos (by omega), if_pos rfl]) ?_
        by_cases hemp : cycTo N l size j = []
        · have := hmore (fun _ => hemp)
          have hz : (((pk true (cycTo N l size j)).length : Int) == 0) = true := by rw [hemp]; rfl
          rw [hz]; exact this
        · have hpre := cycTo_le N l size j (N - j)
          rw [show j + (N - j) = N by omega] at hpre
          have hz : (((pk true (cycTo N l size j)).length : Int) == 0) = false := by
            cases hh : cycTo N l size j with
            | nil => exact absurd hh hemp
            | cons a b => simp [pk]
          rw [hz, pk_stop hpre hemp]
          exact Ev.step (fun k => by rw [remouldref05_cycles.j1, if_neg (by decide)]) (Ev.const _)
  have h1 := hloop N 0 (by omega)
  refine Ev.step (fun k => by rw [remouldref05_cycles.f, if_neg (by simp; omega)]) ?_
  have hz : pk one (cycTo N l size 0) = [] := by cases one <;> rfl
  rw [hz] at h1
  exact h1
theorem odd_l0 (N : Nat) (hN : N ≤ 12) (l : List S49) (hl : l.length ≤ 41) (x : List Int) : ∀ d j : Nat, (∃ k, k = j + d ∧ 2 * k + 3 ≤ N ∧ [x] <+: cyclesB N l (2 * k + 3)) → (∀ i, j ≤ i → i < j + d → cyclesB N l (2 * i + 3) = []) →
    Ev (fun k => remouldref05_Odd.l0 k N l ((2 * j + 3 : Nat) : Int)) (x, true) := by
  intro d
  induction d with
  | zero =>
    rintro j ⟨k, hkj, hk, hx⟩ _
    rw [show k = j by omega] at hk hx
    obtain ⟨t, ht⟩ := hx
    refine Ev.step (fun k => by rw [remouldref05_Odd.l0]) (Ev.bind (cycles_top N hN l hl (2 * j + 3) (by omega) (by omega) (by omega) true) ?_)
    rw [← ht]
    exact Ev.const _
  | succ d ih =>
    rintro j ⟨k, rfl, hk, hx⟩ hno
    refine Ev.step (fun k => by rw [remouldref05_Odd.l0]) (Ev.bind (cycles_top N hN l hl (2 * j + 3) (by omega) (by omega) (by omega) true) ?_)
    rw [hno j (by omega) (by omega)]
    have := ih (j + 1) ⟨j + (d + 1), by omega, hk, hx⟩ (fun i h1 h2 => hno i (by omega) (by omega))
    refine Ev.congr (fun k => ?_) this
    rw [if_neg (by simp [pk]), wrap64_id _ (by omega) (by omega)]
    congr 1
theorem upIn_of {N : Int} {l : List S49} (h : graphOk N l = true) : UpIn N l := by
  intro e he
  obtain ⟨i, hi, rfl⟩ := List.getElem_of_mem he
  have := (edgeOk_iff ..).1 (graphOk_edge h i hi).1
  rw [rd_at l i hi] at this
  omega
/-- The first one of the shortest odd cycles. -/
theorem odd_first (N : Nat) (h0 : 1 ≤ N) (hN : N ≤ 12) (l : List S49) (hg : graphOk N l = true) (hv : evenB N l = none) : ∃ (j : Nat) (x : List Int), 2 * j + 3 ≤ N ∧ [x] <+: cyclesB N l (2 * j + 3) ∧ (∀ i, i < j → cyclesB N l (2 * i + 3) = []) ∧ ((oddSizes N).flatMap fun k => cyclesB N l k).headD [] = x ∧ x ∈ cyclesB N l (2 * j + 3) := by
  have hU := upIn_of hg
  have hno : ∀ s, s < 2 ^ N → allCut N l s = false := by
    rw [even_all N h0 l (graphOk_edges hg), List.find?_eq_none] at hv
    intro s hs
    have := hv s (by simpa using hs)
    simpa using this
  obtain ⟨k, h1, h2, h3, h4⟩ := odd_exists hU hno
  obtain ⟨j, hj, hmin⟩ := least (fun j => 2 * j + 3 ≤ N ∧ cyclesB N l (2 * j + 3) ≠ []) ⟨(k - 3) / 2, by omega, by rw [show 2 * ((k - 3) / 2) + 3 = k by omega]; exact h4⟩
  have hbef : ∀ i, i < j → cyclesB N l (2 * i + 3) = [] := fun i hi => by
    cases hc : cyclesB N l (2 * i + 3) with
    | nil => rfl
    | cons a b => exact absurd ⟨by omega, by rw [hc]; simp⟩ (hmin i hi)
  cases hc : cyclesB N l (2 * j + 3) with
  | nil => exact absurd hc hj.2
  | cons x t =>
    have hx : [x] <+: cyclesB N l (2 * j + 3) := by rw [hc]; exact ⟨t, rfl⟩
    exact ⟨j, x, hj.1, hx, hbef, odd_some (by omega) hbef hx, hx.subset (List.mem_singleton.2 rfl)⟩
theorem odd_f (N : Nat) (h0 : 1 ≤ N) (hN : N ≤ 12) (l : List S49) (hl : l.length ≤ 41) (hg : graphOk N l = true) :
    Ev (fun k => remouldref05_Odd.f k N l) (match evenB N l with | some _ => ([], false) | none => (((oddSizes N).flatMap fun k => cyclesB N l k).headD [], true)) := by
  have hb := sides_f N l hl (by omega) (by omega) (graphOk_edges hg)
  cases hv : evenB N l with
  | some s =>
    rw [hv] at hb
    exact Ev.bind hb (Ev.const _)
  | none =>
    rw [hv] at hb
    obtain ⟨j, x, h1, h2, h3, h4, _⟩ := odd_first N h0 hN l hg hv
    refine Ev.bind hb ?_
    show Ev _ (((oddSizes N).flatMap fun k => cyclesB N l k).headD [], true)
    rw [h4]
    exact odd_l0 N hN l hl x j 0 ⟨j, by omega, h1, h2⟩ (fun i _ hi => h3 i (by omega))

end Go.Proofs.Ytkefmlhkejoknaa.L
