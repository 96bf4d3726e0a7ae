/- Send comes to what wheel_Send.f says. -/
import Derived.Test.YtkjojcepombhpaaXBase
namespace Go.Proofs.Ytkjojcepombhpaa.L
set_option linter.unusedVariables false
set_option linter.unusedSimpArgs false
open Go.RowKit Go.Shelf Go.Proofs.YtkjojcepombhpaaW.PrintWords Go.Proofs.YtkjojcepombhpaaW.PrintLast Go.Proofs.YtkjojcepombhpaaW.PrintMore

def wheel_Send.f (m : Int) (t p : List Int) (n : Int) : Option (Int × Int) :=
  some (if ruleB m t p && smallB n then (if smallB (sentW m t p n) then (sentW m t p n, 0) else (0, 5)) else (0, 2))

theorem small_iff (n : Int) : smallB n = true ↔ -1099511627776 ≤ n ∧ n ≤ 1099511627776 := by simp [smallB, inB]
theorem small_mid {n : Int} (h : smallB n = true) : midB n := by have := (small_iff n).1 h; exact ⟨by omega, by omega⟩

abbrev rbox24 (m : Int) (tv pv : Value) : Obj := .cells #[.int .i64 m, tv, pv] 24

set_option maxHeartbeats 2000000 in
theorem wheel_Send.calls (m : Int) (A1 : Option Addr) (c1 : Nat) (t : List Int) (A2 : Option Addr) (c2 : Nat) (p : List Int) (n : Int) (r1 r2 : Int) (w : World) (h1 : Kd.C (Kd.int .i64) w A1 t.length t) (hc1 : t.length ≤ c1) (h2 : Kd.C (Kd.int .i64) w A2 p.length p) (hc2 : p.length ≤ c2) (h : wheel_Send.f m t p n = some (r1, r2)) :
    Calls Try.prog 47 #[.agg #[.int .i64 m, .slice A1 t.length c1, .slice A2 p.length c2], .int .i64 n] w fun e w' => e = .returned (.tuple #[.int .i64 r1, .int .i64 r2]) ∧ Below w.heap.size w w' := by
  have HA := Lib.hid h1
  have HB := Lib.hid h2
  clear h1 h2 hc1 hc2
  simp only [wheel_Send.f, Option.some.injEq] at h
  obtain ⟨q, hq⟩ : ∃ q, ruleB m t p = q := ⟨_, rfl⟩
  have HQ := Lib.hid hq
  have B0 := below_alloc (Below.refl w.heap.size w) (rbox24 m (.slice A1 t.length c1) (.slice A2 p.length c2))
  have HN := Lib.hid (newRule_any m A1 A2 c1 c2 t p _ (Kd.C_below HA.out B0) (Kd.C_below HB.out B0))
  rw [hq] at h HN
  clear hq
  cases q
  · simp only [Bool.false_and, Bool.false_eq_true, if_false, Prod.mk.injEq] at h
    obtain ⟨rfl, rfl⟩ := h
    go_enter Try.func47, Try.ntmps47
    go_wp2_with (go_at_call 58; refine HN.out.mono ?_; rintro e w1 ⟨rfl, hb⟩; have HB1 := Lib.hid hb; clear hb)
    go_ret2
    exact ⟨rfl, below_alloc (below_then B0 B0.size HB1.out) _⟩
  · cases hs : smallB n
    · rw [hs] at h
      simp only [Bool.and_false, Bool.false_eq_true, if_false, Prod.mk.injEq] at h
      obtain ⟨rfl, rfl⟩ := h
      go_enter Try.func47, Try.ntmps47
      go_wp2_with (first
        | (go_at_call 58; refine HN.out.mono ?_; rintro e w1 ⟨rfl, hb⟩; have HB1 := Lib.hid hb; clear hb)
        | (go_at_call 59; refine (small_any _ _).mono ?_; rintro e w2 ⟨rfl, rfl⟩))
      go_ret2
      exact ⟨rfl, below_alloc (below_then B0 B0.size HB1.out) _⟩
    · have hR := ruleB_is HQ.out
      have HM := Lib.hid (small_mid hs)
      rw [hs] at h
      obtain ⟨y, hy⟩ : ∃ y, sentW m t p n = y := ⟨_, rfl⟩
      have HY := Lib.hid (fun W hA hB => sent_any m A1 A2 c1 c2 t p n W hR HM.out hA hB)
      rw [hy] at h HY
      clear hy hR
      cases hs2 : smallB y
      all_goals
        rw [hs2] at h
        simp only [Bool.and_self, Bool.false_eq_true, if_false, if_true, Prod.mk.injEq] at h
        obtain ⟨rfl, rfl⟩ := h
        go_enter Try.func47, Try.ntmps47
        go_wp2_with (first
          | (go_at_call 58; refine HN.out.mono ?_; rintro e w1 ⟨rfl, hb⟩; have HB1 := Lib.hid (below_alloc (below_then B0 B0.size hb) (rbox m (.slice A1 t.length c1) (.slice A2 p.length c2))); clear hb)
          | (go_at_call 59; refine (small_any _ _).mono ?_; rintro e w2 ⟨rfl, rfl⟩)
          | (go_at_call 74; refine (HY.out _ (Kd.C_below HA.out HB1.out) (Kd.C_below HB.out HB1.out)).mono ?_; rintro e w2 ⟨rfl, hb⟩; have HB2 := Lib.hid hb; clear hb))
        go_ret2
        have q1 := HB1.out
        have q2 := HB2.out
        exact ⟨rfl, below_then q1 q1.size q2⟩
end Go.Proofs.Ytkjojcepombhpaa.L
