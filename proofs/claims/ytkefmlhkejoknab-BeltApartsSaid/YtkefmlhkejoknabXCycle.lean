/- The reference's edge and Cycle, by hand: the place of an edge; whether a list is written as an odd cycle, and its edges. -/
import Derived.Test.YtkefmlhkejoknabXBest
namespace Go.Proofs.Ytkefmlhkejoknab.L
set_option linter.unusedVariables false
set_option linter.unusedSimpArgs false
open Go.RowKit Go.Shelf Go.Proofs.YtkefmlhkejoknabW.PrintWords Go.Proofs.YtkefmlhkejoknabW.PrintLast Go.Proofs.YtkefmlhkejoknabW.PrintMore
attribute [local go_sem] max2_int min2_int max_two min_two

/-- The place of the edge of two vertices, or -1. -/
def edgeIs (a b : Int) (e : S46) : Bool := e.f0 == (if a ≤ b then a else b) && e.f1 == (if a ≤ b then b else a)
def edgeAt (l : List S46) (a b : Int) : Int := match l.findIdx? (edgeIs a b) with
  | some i => (i : Int)
  | none => -1
/-- The edges of the first i vertices of a cycle, as the digits of a number; none: it is refused. -/
def cyR (l : List S46) (c : List Int) : Nat → Option Nat
  | 0 => some 0
  | i + 1 => match cyR l c i with
    | none => none
    | some s => if edgeAt l (rd c (i : Int)) (rd c (((i + 1) % c.length : Nat) : Int)) < 0 ∨ (0 < i ∧ rd c (i : Int) ≤ rd c 0) ∨ (c.take i).contains (rd c (i : Int)) = true then none
      else some (s + 2 ^ (edgeAt l (rd c (i : Int)) (rd c (((i + 1) % c.length : Nat) : Int))).toNat)
def remouldref05_edge.f (l : List S46) (a b : Int) : Option Int := if l.length ≤ 62 then some (edgeAt l a b) else none
def cycOut : Option Nat → Int × Bool
  | some s => ((s : Int), true)
  | none => (0, false)
def remouldref05_Cycle.f (l : List S46) (c : List Int) : Option (Int × Bool) :=
  if l.length ≤ 41 ∧ c.length ≤ 1000 then some (if c.length < 3 ∨ c.length % 2 = 0 ∨ rd c 1 ≥ rd c ((c.length - 1 : Nat) : Int) then (0, false) else cycOut (cyR l c c.length)) else none

theorem edgeAt_hit (l : List S46) (a b : Int) (k : Nat) (hk : k < l.length) (hno : ∀ j, j < k → edgeIs a b (rd_T46 l (j : Int)) = false) (h : edgeIs a b (rd_T46 l (k : Int)) = true) : edgeAt l a b = (k : Int) := by
  have e : l.findIdx? (edgeIs a b) = some k := by
    rw [List.findIdx?_eq_some_iff_getElem]
    refine ⟨hk, ?_, fun j hj => ?_⟩
    · have := h; simpa [rd_T46, List.getElem?_eq_getElem hk] using this
    · have := hno j hj; simpa [rd_T46, List.getElem?_eq_getElem (show j < l.length by omega)] using this
  unfold edgeAt; rw [e]
theorem edgeAt_none (l : List S46) (a b : Int) (hno : ∀ j, j < l.length → edgeIs a b (rd_T46 l (j : Int)) = false) : edgeAt l a b = -1 := by
  have e : l.findIdx? (edgeIs a b) = none := by
    rw [List.findIdx?_eq_none_iff]
    intro x hx
    obtain ⟨j, hj, rfl⟩ := List.getElem_of_mem hx
    have := hno j hj; simpa [rd_T46, List.getElem?_eq_getElem hj] using this
  unfold edgeAt; rw [e]

set_option maxHeartbeats 1000000 in
theorem edge_any (A0 : Option Addr) (c0 : Nat) (l0 : List S46) (a1 a2 : Int) (r : Int) (w : World) (hr0 : Kd.C k46 w A0 l0.length l0) (hl : l0.length ≤ 62) (h : edgeAt l0 a1 a2 = r) :
    Calls Try.prog 67 #[.slice A0 l0.length c0, .int .i64 a1, .int .i64 a2] w fun e w' => e = .returned (.int .i64 r) ∧ w' = w := by
  have HC := Lib.hid hr0
  have HF := Lib.hid h
  clear hr0 h
  go_enter Try.func67, Try.ntmps67
  go_wp2
  go_loopw [7] (fun i wr => ∃ k : Nat, k ≤ l0.length ∧ i = .int .i64 k ∧ wr = w ∧ Hid (∀ j, j < k → edgeIs a1 a2 (rd_T46 l0 (j : Int)) = false)) (fun i _ => l0.length - (intOf i).toNat)
  case atStart => exact ⟨0, Nat.zero_le _, rfl, rfl, Lib.hid (fun j hj => by omega)⟩
  case round =>
    obtain ⟨k, hk, rfl, rfl, HN⟩ := hrel
    by_cases hlt : k < l0.length
    · obtain ⟨ad, rfl, hc0, hc1, hc2⟩ := at_T46 HC.out (k : Int) (by omega) (by omega)
      simp only [Int.toNat_natCast] at hc0 hc1 hc2
      have HO : ∀ (p : Prop), (p ↔ edgeIs a1 a2 (rd_T46 l0 (k : Int)) = false) → p → Hid (∀ j, j < k + 1 → edgeIs a1 a2 (rd_T46 l0 (j : Int)) = false) := fun p hp h => Lib.hid (fun j hj => by
        by_cases e : j = k
        · subst e; exact hp.1 h
        · exact HN.out j (by omega))
      have HY : ∀ (p : Prop), (p ↔ edgeIs a1 a2 (rd_T46 l0 (k : Int)) = true) → p → (k : Int) = r := fun p hp h => (edgeAt_hit l0 a1 a2 k hlt HN.out (hp.1 h)).symm.trans HF.out
      go_wp2
      all_goals first
        | exact ⟨⟨k + 1, by omega, by go_num, by trivial, by
            try simp only [beq_eq_false_iff_ne, ne_eq] at *
            refine HO _ ?_ trivial
            simp only [edgeIs, Bool.and_eq_false_iff, beq_eq_false_iff_ne, ne_eq, true_iff]
            split <;> omega⟩, by simp [intOf]; omega⟩
        | (go_ret; exact ⟨by
            simp only [beq_iff_eq] at *
            rw [HY True (by simp only [edgeIs, Bool.and_eq_true, beq_iff_eq, true_iff]; split <;> omega) trivial]
            rfl, rfl⟩)
    · obtain rfl : k = l0.length := by omega
      go_wp2
      go_ret
      exact ⟨by rw [← HF.out, edgeAt_none l0 a1 a2 HN.out]; rfl, rfl⟩

theorem remouldref05_edge.calls (A0 : Option Addr) (c0 : Nat) (l0 : List S46) (a1 a2 : Int) (r : Int) (w : World) (hr0 : Kd.C k46 w A0 l0.length l0) (hc0 : l0.length ≤ c0) (h : remouldref05_edge.f l0 a1 a2 = some r) :
    Calls Try.prog 67 #[.slice A0 l0.length c0, .int .i64 a1, .int .i64 a2] w fun e w' => e = .returned (.int .i64 r) ∧ Below w.heap.size w w' := by
  rw [remouldref05_edge.f] at h
  by_cases hl : l0.length ≤ 62
  case neg => rw [if_neg hl] at h; cases h
  rw [if_pos hl] at h
  simp only [Option.some.injEq] at h
  refine (edge_any A0 c0 l0 a1 a2 r w hr0 hl h).mono ?_
  rintro e w' ⟨rfl, rfl⟩
  exact ⟨rfl, Below.refl _ _⟩


attribute [local irreducible] wpQuiet
/-- One vertex more: it is refused. -/
theorem cyR_bad (l : List S46) (c : List Int) (k : Nat) (hk : k < c.length) (h : cyR l c (k + 1) = none) : cycOut (cyR l c c.length) = (0, false) := by
  have : ∀ d, cyR l c (k + 1 + d) = none := by
    intro d
    induction d with
    | zero => exact h
    | succ d ih => rw [← Nat.add_assoc, cyR, ih]
  have h2 := this (c.length - (k + 1))
  rw [show k + 1 + (c.length - (k + 1)) = c.length by omega] at h2
  rw [h2]; rfl
theorem cyR_bound (l : List S46) (hl : l.length ≤ 41) (c : List Int) (k s : Nat) (h : cyR l c k = some s) : s ≤ k * 2 ^ 41 := by
  induction k generalizing s with
  | zero => rw [cyR] at h; cases h; exact Nat.zero_le _
  | succ k ih =>
    rw [cyR] at h
    cases hk : cyR l c k with
    | none => rw [hk] at h; cases h
    | some t =>
      rw [hk] at h
      simp only at h
      split at h
      · cases h
      · simp only [Option.some.injEq] at h
        have := ih t hk
        have hlt : edgeAt l (rd c (k : Int)) (rd c (((k + 1) % c.length : Nat) : Int)) < l.length := by
          unfold edgeAt
          cases hf : l.findIdx? (edgeIs (rd c (k : Int)) (rd c (((k + 1) % c.length : Nat) : Int))) with
          | none => simp; omega
          | some i => have := List.findIdx?_eq_some_iff_findIdx_eq.1 hf; simp only; omega
        have hp : 2 ^ (edgeAt l (rd c (k : Int)) (rd c (((k + 1) % c.length : Nat) : Int))).toNat ≤ 2 ^ 41 := Nat.pow_le_pow_right (by omega) (by omega)
        rw [Nat.succ_mul]
        omega
theorem shl_i64 (k : Nat) (h : k < 41) : IntKind.i64.wrap (2 ^ k) = ((2 ^ k : Nat) : Int) := by
  have h1 : 2 ^ k ≤ 2 ^ 41 := Nat.pow_le_pow_right (by omega) (by omega)
  have : ((2 : Int) ^ k) = ((2 ^ k : Nat) : Int) := by simp
  rw [this, IntKind.wrap_i64]
  generalize 2 ^ k = x at h1
  omega

theorem sum_wrap (s k : Nat) (hs : s ≤ 1001 * 2 ^ 41) (hk : k < 41) : wrap64 ((s : Int) + 2 ^ k) = ((s + 2 ^ k : Nat) : Int) := by
  have h1 : 2 ^ k ≤ 2 ^ 41 := Nat.pow_le_pow_right (by omega) (by omega)
  have : ((2 : Int) ^ k) = ((2 ^ k : Nat) : Int) := by simp
  rw [this]
  generalize 2 ^ k = x at h1
  unfold wrap64
  omega
theorem contains_snocC (xs : List Int) (k : Nat) (hk : k < xs.length) (v : Int) (q : Bool) (hq : (rd xs (k : Int) == v) = q) : (xs.take (k + 1)).contains v = ((xs.take k).contains v || q) := by
  subst hq
  have e : rd xs (k : Int) = xs[k] := by simp [rd, List.getElem?_eq_getElem hk]
  rw [List.take_succ_eq_append_getElem hk, e, List.contains_eq_any_beq, List.contains_eq_any_beq, List.any_append]
  simp only [List.any_cons, List.any_nil, Bool.or_false]
  congr 1
  rw [Bool.eq_iff_iff, beq_iff_eq, beq_iff_eq]
  exact eq_comm
theorem contains_takeC (xs : List Int) (i k : Nat) (h : i < k) (v : Int) (hc : (xs.take (i + 1)).contains v = true) : (xs.take k).contains v = true := by
  rw [List.contains_iff_mem] at hc ⊢
  exact (List.take_sublist_take_left (by omega : i + 1 ≤ k)).subset hc

set_option maxHeartbeats 4000000 in
theorem cycle_any (A0 : Option Addr) (c0 : Nat) (l0 : List S46) (A1 : Option Addr) (c1 : Nat) (l1 : List Int) (r1 : Int) (r2 : Bool) (w : World) (hr0 : Kd.C k46 w A0 l0.length l0) (hr1 : Kd.C (Kd.int .i64) w A1 l1.length l1) (h : remouldref05_Cycle.f l0 l1 = some (r1, r2)) :
    Calls Try.prog 38 #[.slice A0 l0.length c0, .slice A1 l1.length c1] w fun e w' => e = .returned (.tuple #[.int .i64 r1, .bool r2]) ∧ ∃ m, w' = w.drewN m := by
  have HC := Lib.hid hr0
  have HD := Lib.hid hr1
  rw [remouldref05_Cycle.f] at h
  by_cases hl : l0.length ≤ 41 ∧ l1.length ≤ 1000
  case neg => rw [if_neg hl] at h; cases h
  rw [if_pos hl] at h
  simp only [Option.some.injEq] at h
  obtain ⟨hl0, hl1⟩ := hl
  clear hr0 hr1
  by_cases q0 : l1.length < 3
  · rw [if_pos (.inl q0)] at h
    cases h
    have d0 : decide ((l1.length : Int) < 3) = true := by simp; omega
    go_enter Try.func38, Try.ntmps38
    go_wp2
    go_quiet (fail)
    go_wp2
    go_ret2
    exact ⟨rfl, _, rfl⟩
  · have d0 : decide ((l1.length : Int) < 3) = false := by simp; omega
    obtain ⟨ad, rfl, hx1⟩ := Kd.at_int HD.out ((1 : Nat) : Int) (by omega) (by omega)
    obtain ⟨ad', had, hxl⟩ := Kd.at_int HD.out ((l1.length - 1 : Nat) : Int) (by omega) (by omega)
    cases had
    obtain ⟨ad', had, hx0⟩ := Kd.at_int HD.out ((0 : Nat) : Int) (by omega) (by omega)
    cases had
    simp only [Int.toNat_natCast] at hx1 hxl hx0
    replace hx1 : w.cell? { block := ad.block, off := ad.off + 1 } = some (.int .i64 (rd l1 ((1 : Nat) : Int))) := hx1
    replace hx0 : w.cell? ad = some (.int .i64 (rd l1 ((0 : Nat) : Int))) := hx0
    have b1 : (1 : Int) < (l1.length : Int) := by omega
    have b0 : (0 : Int) < (l1.length : Int) := by omega
    have b2 : IntKind.i64.wrap ((l1.length : Int) - 1) = ((l1.length - 1 : Nat) : Int) := by rw [IntKind.wrap_i64]; omega
    have b3 : ((l1.length - 1 : Nat) : Int) < l1.length := by omega
    generalize hy1 : rd l1 ((1 : Nat) : Int) = y1 at hx1
    generalize hyl : rd l1 ((l1.length - 1 : Nat) : Int) = yl at hxl h
    generalize l1.length - 1 = L at b2 b3 hxl hyl
    rw [show rd l1 1 = y1 from hy1] at h
    have e2 : Int.tmod (l1.length : Int) 2 = ((l1.length % 2 : Nat) : Int) := by rw [Int.tmod_eq_emod_of_nonneg (by omega)]; rfl
    by_cases q1 : l1.length % 2 = 0
    · rw [if_pos (.inr (.inl q1))] at h
      cases h
      have d1 : (Int.tmod (l1.length : Int) 2 == 0) = true := by rw [beq_iff_eq, e2]; omega
      clear e2 q1 hy1 hyl
      go_enter Try.func38, Try.ntmps38
      go_wp2
      go_quiet (fail)
      go_wp2
      go_ret2
      exact ⟨rfl, _, rfl⟩
    · have d1 : (Int.tmod (l1.length : Int) 2 == 0) = false := by rw [beq_eq_false_iff_ne, e2]; omega
      by_cases q2 : y1 ≥ yl
      · rw [if_pos (.inr (.inr q2))] at h
        cases h
        have d2 : decide (yl ≤ y1) = true := by simpa using q2
        clear e2 q1 hy1 hyl q2
        go_enter Try.func38, Try.ntmps38
        go_wp2
        go_quiet (fail)
        go_wp2
        go_ret2
        exact ⟨rfl, _, rfl⟩
      · rw [if_neg (by omega)] at h
        have H := Lib.hid h
        have d2 : decide (yl ≤ y1) = false := by simpa using q2
        clear h e2 q1 hy1 hyl q2
        go_enter Try.func38, Try.ntmps38
        go_wp2
        go_quiet (fail)
        go_wp2
        clear d0 d1 d2 hx1 hxl b1 b2 b3
        go_loopw [6, 7] (fun sv iv wr => ∃ (k s m : Nat), k ≤ l1.length ∧ iv = .int .i64 k ∧ sv = .int .i64 (s : Int) ∧ wr = w.drewN m ∧ Hid (cyR l0 l1 k = some s)) (fun _ iv _ => l1.length - (intOf iv).toNat)
        case atStart => exact ⟨0, 0, _, Nat.zero_le _, rfl, rfl, rfl, Lib.hid rfl⟩
        case round =>
          obtain ⟨k, s, m, hk, rfl, rfl, rfl, HS⟩ := hrel
          by_cases hlt : k < l1.length
          · obtain ⟨ad', had, hxk⟩ := Kd.at_int HD.out (k : Int) (by omega) (by omega)
            cases had
            have hjl : (k + 1) % l1.length < l1.length := Nat.mod_lt _ (by omega)
            have hrem : Int.tmod ((k : Int) + 1) (l1.length : Int) = (((k + 1) % l1.length : Nat) : Int) := by rw [Int.tmod_eq_emod_of_nonneg (by omega)]; rfl
            have hcy : cyR l0 l1 (k + 1) = if edgeAt l0 (rd l1 (k : Int)) (rd l1 (((k + 1) % l1.length : Nat) : Int)) < 0 ∨ (0 < k ∧ rd l1 (k : Int) ≤ rd l1 ((0 : Nat) : Int)) ∨ (l1.take k).contains (rd l1 (k : Int)) = true then none else some (s + 2 ^ (edgeAt l0 (rd l1 (k : Int)) (rd l1 (((k + 1) % l1.length : Nat) : Int))).toNat) := by
              rw [cyR, HS.out]; rfl
            obtain ⟨ad', had, hxj⟩ := Kd.at_int HD.out (((k + 1) % l1.length : Nat) : Int) (by omega) (by omega)
            cases had
            simp only [Int.toNat_natCast] at hxk hxj
            generalize (k + 1) % l1.length = j at hjl hrem hcy hxj
            generalize hye : edgeAt l0 (rd l1 (k : Int)) (rd l1 (j : Int)) = q at hcy
            have hq41 : q < l0.length := by
              rw [← hye]; unfold edgeAt
              cases hf : l0.findIdx? (edgeIs (rd l1 (k : Int)) (rd l1 (j : Int))) with
              | none => simp; omega
              | some i => have := List.findIdx?_eq_some_iff_findIdx_eq.1 hf; simp only; omega
            have hedge := fun W hW => edge_any A0 c0 l0 (rd l1 (k : Int)) (rd l1 (j : Int)) q W hW (by omega) hye
            have hsb := cyR_bound l0 hl0 l1 k s HS.out
            generalize hyk : rd l1 (k : Int) = xk at hcy hxk hedge
            generalize rd l1 (j : Int) = xj at hxj hedge
            generalize rd l1 ((0 : Nat) : Int) = x0 at hcy hx0
            have HE := Lib.hid hedge
            have HY := Lib.hid hcy
            have HK := Lib.hid hyk
            have HSB := Lib.hid hsb
            clear hedge hcy hyk hsb hye
            have bk : (k : Int) < l1.length := by omega
            have bj : (j : Int) < l1.length := by omega
            have bw : IntKind.i64.wrap ((k : Int) + 1) = (k : Int) + 1 := by rw [IntKind.wrap_i64]; omega
            have bz : ((l1.length : Int) == 0) = false := by rw [beq_eq_false_iff_ne]; omega
            have bz' : ¬ (l1.length : Int) = 0 := by omega
            have bz2 : ¬ l1 = [] := by intro e; rw [e] at hlt; simp at hlt
            have hbad : cyR l0 l1 (k + 1) = none → (0, false) = (r1, r2) := fun hn => (cyR_bad l0 l1 k hlt hn).symm.trans H.out
            go_wp2
            go_quiet ((refine (HE.out _ (Kd.C_drewN HC.out _)).mono ?_; rintro e w2 ⟨he, rfl⟩; exact ⟨he, _, rfl⟩))
            go_wp2
            by_cases p0 : q < 0
            · have f0 : decide (q < 0) = true := decide_eq_true p0
              have hb := hbad (by rw [HY.out, if_pos (.inl p0)])
              cases hb
              go_quiet (fail)
              go_wp2
              go_ret2
              exact ⟨rfl, _, rfl⟩
            · have f0 : decide (q < 0) = false := decide_eq_false p0
              by_cases p1 : 0 < k ∧ xk ≤ x0
              · have f1 : decide ((k : Int) > 0) = true := by simpa using p1.1
                have f1' : 0 < k := p1.1
                have f2 : decide (xk ≤ x0) = true := decide_eq_true p1.2
                have hb := hbad (by rw [HY.out, if_pos (.inr (.inl p1))])
                cases hb
                go_quiet (fail)
                go_wp2
                go_ret2
                exact ⟨rfl, _, rfl⟩
              · have hquiet : (¬ 0 < k ∧ decide (0 < k) = false) ∨ (0 < k ∧ decide (0 < k) = true ∧ decide (xk ≤ x0) = false) := by
                  by_cases z : 0 < k
                  · exact .inr ⟨z, decide_eq_true z, by simpa using fun h => p1 ⟨z, h⟩⟩
                  · exact .inl ⟨z, decide_eq_false z⟩
                have HP := Lib.hid p1
                clear p1
                rcases hquiet with ⟨f1, f1'⟩ | ⟨f1, f1', f2⟩
                all_goals
                  go_quiet (fail)
                  go_wp2
                  go_loopw [9] (fun jv wr => ∃ (i m : Nat), i ≤ k ∧ jv = .int .i64 i ∧ wr = w.drewN m ∧ Hid ((l1.take i).contains xk = false)) (fun jv _ => k - (intOf jv).toNat)
                  case atStart => exact ⟨0, _, Nat.zero_le _, rfl, rfl, Lib.hid (by simp)⟩
                  case round =>
                    obtain ⟨i, m2, hi, rfl, rfl, HI⟩ := hrel
                    by_cases hik : i < k
                    · have bi : (i : Int) < (k : Int) := by omega
                      have bil : (i : Int) < l1.length := by omega
                      obtain ⟨ad', had, hxi⟩ := Kd.at_int HD.out (i : Int) (by omega) (by omega)
                      cases had
                      simp only [Int.toNat_natCast] at hxi
                      have hsn := fun q (hq : (rd l1 (i : Int) == xk) = q) => contains_snocC l1 i (by omega) xk q hq
                      generalize rd l1 (i : Int) = xi at hxi hsn
                      cases hq : (xi == xk)
                      · have HI2 := Lib.hid (show (l1.take (i + 1)).contains xk = false from by rw [hsn false hq, HI.out]; rfl)
                        clear hsn
                        go_wp2
                        go_quiet (fail)
                        go_wp2
                        exact ⟨⟨i + 1, _, by omega, by go_num, rfl, HI2⟩, by simp [intOf]; omega⟩
                      · have hb := hbad (by rw [HY.out, if_pos (.inr (.inr (contains_takeC l1 i k (by omega) xk (by rw [hsn true hq]; simp))))])
                        cases hb
                        clear hsn
                        go_wp2
                        go_quiet (fail)
                        go_wp2
                        go_ret2
                        exact ⟨rfl, _, World.drewN_drewN _ _ _⟩
                    · obtain rfl : i = k := by omega
                      have hno : ¬ (q < 0 ∨ (0 < i ∧ xk ≤ x0) ∨ (l1.take i).contains xk = true) := by
                        rintro (h | h | h)
                        · omega
                        · exact HP.out h
                        · rw [HI.out] at h; cases h
                      have hnext := HY.out
                      rw [if_neg hno] at hnext
                      have hsh := shl_i64 q.toNat (by omega)
                      have hq0 : 0 ≤ q := by omega
                      have hw := sum_wrap s q.toNat (Nat.le_trans HSB.out (Nat.mul_le_mul_right _ (by omega))) (by omega)
                      generalize s + 2 ^ q.toNat = P at hw hnext
                      have HW := Lib.hid hw
                      clear hw
                      go_wp2
                      exact ⟨⟨i + 1, P, _, by omega, by go_num, congrArg (Value.int .i64) HW.out, rfl, Lib.hid hnext⟩, by simp [intOf]; omega⟩
          · obtain rfl : k = l1.length := by omega
            have e := H.out
            rw [HS.out] at e
            cases e
            go_wp2
            go_ret2
            exact ⟨rfl, _, rfl⟩

theorem remouldref05_Cycle.calls (A0 : Option Addr) (c0 : Nat) (l0 : List S46) (A1 : Option Addr) (c1 : Nat) (l1 : List Int) (r1 : Int) (r2 : Bool) (w : World) (hr0 : Kd.C k46 w A0 l0.length l0) (hc0 : l0.length ≤ c0) (hr1 : Kd.C (Kd.int .i64) w A1 l1.length l1) (hc1 : l1.length ≤ c1) (h : remouldref05_Cycle.f l0 l1 = some (r1, r2)) :
    Calls Try.prog 38 #[.slice A0 l0.length c0, .slice A1 l1.length c1] w fun e w' => e = .returned (.tuple #[.int .i64 r1, .bool r2]) ∧ Below w.heap.size w w' := by
  refine (cycle_any A0 c0 l0 A1 c1 l1 r1 r2 w hr0 hr1 h).mono ?_
  rintro e w' ⟨rfl, m, rfl⟩
  exact ⟨rfl, pw_below_drewN (Below.refl _ _) _⟩

end Go.Proofs.Ytkefmlhkejoknab.L
