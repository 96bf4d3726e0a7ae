/- wheel.Cycles (56): the walk. -/
import Derived.Test.YtkjojcepombhpaaXRows
namespace Go.Proofs.Ytkjojcepombhpaa.L
open Go.RowKit Go.Proofs.YtkjojcepombhpaaW.PrintWords Go.Proofs.YtkjojcepombhpaaW.PrintLast Go.Proofs.YtkjojcepombhpaaW.PrintMore
set_option linter.unusedVariables false
set_option linter.unusedSimpArgs false

set_option maxHeartbeats 2000000 in
theorem cycles_bad (m : Int) (A1 : Option Addr) (c1 : Nat) (t : List Int) (A2 : Option Addr) (c2 : Nat) (p : List Int) (lo hi steps : Int) (w : World) (h1 : Kd.C (Kd.int .i64) w A1 t.length t) (h2 : Kd.C (Kd.int .i64) w A2 p.length p) (hb : (ruleB m t p && (smallB lo && (smallB hi && (inB (wrap64 (hi - lo)) 0 500 && inB steps 0 500)))) = false) :
    Calls Try.prog 56 #[.agg #[.int .i64 m, .slice A1 t.length c1, .slice A2 p.length c2], .int .i64 lo, .int .i64 hi, .int .i64 steps] w fun e w' => e = .returned (.tuple #[.slice none 0 0, .int .i64 2]) ∧ Below w.heap.size w w' := by
  have HA := Lib.hid h1
  have HB := Lib.hid h2
  have B0 := below_alloc (Below.refl w.heap.size w) (rbox24 m (.slice A1 t.length c1) (.slice A2 p.length c2))
  have HN := Lib.hid (newRule_any m A1 A2 c1 c2 t p _ (Kd.C_below h1 B0) (Kd.C_below h2 B0))
  clear h1 h2
  cases hq : ruleB m t p
  · rw [hq] at HN
    clear hb hq
    go_enter Try.func56, Try.ntmps56
    go_wp2_with (go_at_call 58; refine HN.out.mono ?_; rintro e w1 ⟨rfl, hb⟩; have HB1 := Lib.hid hb; clear hb)
    go_ret2
    exact ⟨rfl, below_alloc (below_then B0 B0.size HB1.out) _⟩
  · rw [hq] at HN hb
    clear hq
    cases hs : smallB lo
    · clear hb
      go_enter Try.func56, Try.ntmps56
      go_wp2_with (first
        | (go_at_call 58; refine HN.out.mono ?_; rintro e w1 ⟨rfl, hb⟩; have HB1 := Lib.hid hb; clear hb)
        | (go_at_call 59; refine (small_any _ _).mono ?_; rintro e w2 ⟨rfl, rfl⟩))
      go_ret2
      exact ⟨rfl, below_alloc (below_then B0 B0.size HB1.out) _⟩
    cases hs2 : smallB hi
    · clear hb
      go_enter Try.func56, Try.ntmps56
      go_wp2_with (first
        | (go_at_call 58; refine HN.out.mono ?_; rintro e w1 ⟨rfl, hb⟩; have HB1 := Lib.hid hb; clear hb)
        | (go_at_call 59; refine (small_any _ _).mono ?_; rintro e w2 ⟨rfl, rfl⟩))
      go_ret2
      exact ⟨rfl, below_alloc (below_then B0 B0.size HB1.out) _⟩
    cases hi1 : inB (wrap64 (hi - lo)) 0 500
    · clear hb
      go_enter Try.func56, Try.ntmps56
      go_wp2_with (first
        | (go_at_call 58; refine HN.out.mono ?_; rintro e w1 ⟨rfl, hb⟩; have HB1 := Lib.hid hb; clear hb)
        | (go_at_call 59; refine (small_any _ _).mono ?_; rintro e w2 ⟨rfl, rfl⟩)
        | (go_at_call 60; refine (within_any _ _ _ _).mono ?_; rintro e w2 ⟨rfl, rfl⟩))
      go_ret2
      exact ⟨rfl, below_alloc (below_then B0 B0.size HB1.out) _⟩
    have hi2 : inB steps 0 500 = false := by rw [hs, hs2, hi1] at hb; simpa using hb
    clear hb
    go_enter Try.func56, Try.ntmps56
    go_wp2_with (first
      | (go_at_call 58; refine HN.out.mono ?_; rintro e w1 ⟨rfl, hb⟩; have HB1 := Lib.hid hb; clear hb)
      | (go_at_call 59; refine (small_any _ _).mono ?_; rintro e w2 ⟨rfl, rfl⟩)
      | (go_at_call 60; refine (within_any _ _ _ _).mono ?_; rintro e w2 ⟨rfl, rfl⟩))
    go_ret2
    exact ⟨rfl, below_alloc (below_then B0 B0.size HB1.out) _⟩

/-- How slices.Compare answers. -/
def cmpRows : List Int → List Int → Int
  | [], [] => 0
  | [], _ :: _ => -1
  | _ :: _, [] => 1
  | a :: s, b :: t => if Lib.compareInt a b = 0 then cmpRows s t else Lib.compareInt a b
theorem nan_any (x : Int) (w : World) : Calls Try.prog 115 #[.int .i64 x] w fun e w' => e = .returned (.bool false) ∧ w = w' := by
  go_enter Try.func115, Try.ntmps115
  go_wp2
  go_ret
  exact ⟨by simp, rfl⟩
set_option maxHeartbeats 1000000 in
theorem cmp92_any (x y : Int) (w : World) : Calls Try.prog 92 #[.int .i64 x, .int .i64 y] w fun e w' => e = .returned (.int .i64 (Lib.compareInt x y)) ∧ w = w' := by
  unfold Lib.compareInt
  by_cases h1 : x < y
  · rw [if_pos h1]
    go_enter Try.func92, Try.ntmps92
    go_wp2_with (go_at_call 115; refine (nan_any _ _).mono ?_; rintro e w2 ⟨rfl, rfl⟩)
    go_ret
    exact ⟨rfl, rfl⟩
  · rw [if_neg h1]
    by_cases h2 : y < x
    · rw [if_pos h2]
      go_enter Try.func92, Try.ntmps92
      go_wp2_with (go_at_call 115; refine (nan_any _ _).mono ?_; rintro e w2 ⟨rfl, rfl⟩)
      go_ret
      exact ⟨rfl, rfl⟩
    · rw [if_neg h2]
      go_enter Try.func92, Try.ntmps92
      go_wp2_with (go_at_call 115; refine (nan_any _ _).mono ?_; rintro e w2 ⟨rfl, rfl⟩)
      go_ret
      exact ⟨rfl, rfl⟩
theorem cmpRows_step (l t : List Int) (k : Nat) (h1 : k < l.length) (h2 : k < t.length) : cmpRows (l.drop k) (t.drop k) = if Lib.compareInt (rd l (k : Int)) (rd t (k : Int)) = 0 then cmpRows (l.drop (k + 1)) (t.drop (k + 1)) else Lib.compareInt (rd l (k : Int)) (rd t (k : Int)) := by
  have e1 : rd l (k : Int) = l[k] := by simp [rd, h1]
  have e2 : rd t (k : Int) = t[k] := by simp [rd, h2]
  rw [List.drop_eq_getElem_cons h1, List.drop_eq_getElem_cons h2, cmpRows, e1, e2]
set_option maxHeartbeats 1000000 in
theorem compare81_any (A : Option Addr) (c : Nat) (l : List Int) (B : Option Addr) (d : Nat) (t : List Int) (w : World) (hl : l.length ≤ 100000) (ht : t.length ≤ 100000) (hC : Kd.C (Kd.int .i64) w A l.length l) (hD : Kd.C (Kd.int .i64) w B t.length t) :
    Calls Try.prog 81 #[.slice A l.length c, .slice B t.length d] w fun e w' => e = .returned (.int .i64 (cmpRows l t)) ∧ w = w' := by
  have HC := Lib.hid hC
  have HD := Lib.hid hD
  clear hC hD
  go_enter Try.func81, Try.ntmps81
  go_wp2
  go_loopw [11] (fun i wr => ∃ k : Nat, k ≤ l.length ∧ i = .int .i64 k ∧ w = wr ∧ k ≤ t.length ∧ Hid (cmpRows l t = cmpRows (l.drop k) (t.drop k))) (fun i _ => l.length - (intOf i).toNat)
  case atStart => exact ⟨0, Nat.zero_le _, rfl, rfl, Nat.zero_le _, Lib.hid rfl⟩
  case round =>
    obtain ⟨k, hk, rfl, rfl, hkt, HN⟩ := hrel
    by_cases hlt : k < l.length
    · obtain ⟨ad, rfl, hc0⟩ := Kd.at_int HC.out (k : Int) (by omega) (by omega)
      simp only [Int.toNat_natCast] at hc0
      by_cases hlt2 : k < t.length
      · obtain ⟨ad2, rfl, hc2⟩ := Kd.at_int HD.out (k : Int) (by omega) (by omega)
        simp only [Int.toNat_natCast] at hc2
        have hst := cmpRows_step l t k hlt hlt2
        generalize rd l (k : Int) = x at hc0 hst
        generalize rd t (k : Int) = y at hc2 hst
        have HCALL := Lib.hid (cmp92_any x y w)
        rw [← HN.out] at hst
        generalize Lib.compareInt x y = z at hst HCALL
        by_cases hz : z = 0
        · subst hz
          rw [if_pos rfl] at hst
          have HST := Lib.hid hst
          clear hst
          go_wp2_with (go_at_call 92; refine HCALL.out.mono ?_; rintro e w2 ⟨rfl, rfl⟩)
          exact ⟨⟨k + 1, by omega, by go_num, trivial, by omega, HST⟩, by simp [intOf]; omega⟩
        · rw [if_neg hz] at hst
          have HST := Lib.hid hst
          clear hst
          go_wp2_with (go_at_call 92; refine HCALL.out.mono ?_; rintro e w2 ⟨rfl, rfl⟩)
          exact bodyPost_ret (v := .int .i64 z) (by simp [results, Try.results81, go_sem]) rfl ⟨by rw [HST.out], rfl⟩
      · have e0 : t.drop k = [] := List.drop_eq_nil_of_le (by omega)
        have hst : cmpRows l t = 1 := by rw [HN.out, e0, List.drop_eq_getElem_cons hlt, cmpRows]
        have HST := Lib.hid hst
        clear hst e0
        have hge : (t.length : Int) ≤ (k : Int) := by omega
        go_wp2
        exact bodyPost_ret (v := .int .i64 1) (by simp [results, Try.results81, go_sem]) rfl ⟨by rw [HST.out], rfl⟩
    · obtain rfl : k = l.length := by omega
      have e0 : l.drop l.length = [] := List.drop_length
      by_cases hlt2 : l.length < t.length
      · have hst : cmpRows l t = -1 := by rw [HN.out, e0, List.drop_eq_getElem_cons hlt2, cmpRows]
        have HST := Lib.hid hst
        clear hst e0
        go_wp2
        exact bodyPost_ret (v := .int .i64 (-1)) (by simp [results, Try.results81, go_sem]) rfl ⟨by rw [HST.out], rfl⟩
      · have e1 : t.drop l.length = [] := List.drop_eq_nil_of_le (by omega)
        have hst : cmpRows l t = 0 := by rw [HN.out, e0, e1, cmpRows]
        have HST := Lib.hid hst
        clear hst e0 e1
        go_wp2
        exact bodyPost_ret (v := .int .i64 0) (by simp [results, Try.results81, go_sem]) rfl ⟨by rw [HST.out], rfl⟩
end Go.Proofs.Ytkjojcepombhpaa.L
