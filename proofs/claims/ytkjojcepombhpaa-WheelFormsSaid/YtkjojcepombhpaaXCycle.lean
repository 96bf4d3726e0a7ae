/- Cycle comes to what wheel_Cycle.f says. -/
import Derived.Test.YtkjojcepombhpaaXCyc
namespace Go.Proofs.Ytkjojcepombhpaa.L
set_option linter.unusedVariables false
set_option linter.unusedSimpArgs false
open Go.RowKit Go.Shelf Go.Proofs.YtkjojcepombhpaaW.PrintWords Go.Proofs.YtkjojcepombhpaaW.PrintLast Go.Proofs.YtkjojcepombhpaaW.PrintMore

def wheel_Cycle.f (m : Int) (t p : List Int) (n steps : Int) : Option (List Int × Int × Int) :=
  some (if ruleB m t p && (smallB n && inB steps 0 500) then cycleW m t p n steps else ([], 0, 2))

set_option maxHeartbeats 4000000 in
theorem wheel_Cycle.calls (m : Int) (A1 : Option Addr) (c1 : Nat) (t : List Int) (A2 : Option Addr) (c2 : Nat) (p : List Int) (n steps : Int) (r1 : List Int) (r2 r3 : Int) (w : World) (h1 : Kd.C (Kd.int .i64) w A1 t.length t) (hc1 : t.length ≤ c1) (h2 : Kd.C (Kd.int .i64) w A2 p.length p) (hc2 : p.length ≤ c2) (h : wheel_Cycle.f m t p n steps = some (r1, r2, r3)) :
    Calls Try.prog 32 #[.agg #[.int .i64 m, .slice A1 t.length c1, .slice A2 p.length c2], .int .i64 n, .int .i64 steps] w fun e w' => ∃ v0_ : Value, e = .returned (.tuple #[v0_, .int .i64 r2, .int .i64 r3]) ∧ Kd.R (Kd.int .i64) 3 w' w.heap.size (fun _ => True) v0_ r1 ∧ Below w.heap.size w w' := by
  have HA := Lib.hid h1
  have HB := Lib.hid h2
  clear h1 h2 hc1 hc2
  simp only [wheel_Cycle.f, Option.some.injEq] at h
  obtain ⟨q, hq⟩ : ∃ q, ruleB m t p = q := ⟨_, rfl⟩
  have HQ := Lib.hid hq
  have B0 := below_alloc (Below.refl w.heap.size w) (rbox24 m (.slice A1 t.length c1) (.slice A2 p.length c2))
  have HN := Lib.hid (newRule_any m A1 A2 c1 c2 t p _ (Kd.C_below HA.out B0) (Kd.C_below HB.out B0))
  rw [hq] at h HN
  clear hq
  cases q
  · simp only [Bool.false_and, Bool.false_eq_true, if_false, Prod.mk.injEq] at h
    obtain ⟨rfl, rfl, rfl⟩ := h
    go_enter Try.func32, Try.ntmps32
    go_wp2_with (go_at_call 58; refine HN.out.mono ?_; rintro e w1 ⟨rfl, hb⟩; have HB1 := Lib.hid hb; clear hb)
    go_ret3
    exact ⟨_, rfl, Kd.R_nil _ _ _ _ _, below_alloc (below_then B0 B0.size HB1.out) _⟩
  · cases hs : smallB n
    · rw [hs] at h
      simp only [Bool.and_false, Bool.false_and, Bool.false_eq_true, if_false, Prod.mk.injEq] at h
      obtain ⟨rfl, rfl, rfl⟩ := h
      go_enter Try.func32, Try.ntmps32
      go_wp2_with (first
        | (go_at_call 58; refine HN.out.mono ?_; rintro e w1 ⟨rfl, hb⟩; have HB1 := Lib.hid hb; clear hb)
        | (go_at_call 59; refine (small_any _ _).mono ?_; rintro e w2 ⟨rfl, rfl⟩))
      go_ret3
      exact ⟨_, rfl, Kd.R_nil _ _ _ _ _, below_alloc (below_then B0 B0.size HB1.out) _⟩
    · cases hi : inB steps 0 500
      · rw [hi] at h
        simp only [Bool.and_false, Bool.false_eq_true, if_false, Prod.mk.injEq] at h
        obtain ⟨rfl, rfl, rfl⟩ := h
        go_enter Try.func32, Try.ntmps32
        go_wp2_with (first
          | (go_at_call 58; refine HN.out.mono ?_; rintro e w1 ⟨rfl, hb⟩; have HB1 := Lib.hid hb; clear hb)
          | (go_at_call 59; refine (small_any _ _).mono ?_; rintro e w2 ⟨rfl, rfl⟩)
          | (go_at_call 60; refine (within_any _ _ _ _).mono ?_; rintro e w2 ⟨rfl, rfl⟩))
        go_ret3
        exact ⟨_, rfl, Kd.R_nil _ _ _ _ _, below_alloc (below_then B0 B0.size HB1.out) _⟩
      · have hR := ruleB_is HQ.out
        have hst : 0 ≤ steps ∧ steps ≤ 500 := by simpa [inB] using hi
        rw [hi, hs] at h
        simp only [Bool.and_self, if_true] at h
        have HY := Lib.hid (fun W hA hB => cycle_any m A1 c1 t A2 c2 p n steps W hA hB hR hst _ h)
        clear hR h
        go_enter Try.func32, Try.ntmps32
        go_wp2_with (first
          | (go_at_call 58; refine HN.out.mono ?_; rintro e w1 ⟨rfl, hb⟩; have HB1 := Lib.hid (below_alloc (below_then B0 B0.size hb) (rbox m (.slice A1 t.length c1) (.slice A2 p.length c2))); clear hb)
          | (go_at_call 59; refine (small_any _ _).mono ?_; rintro e w2 ⟨rfl, rfl⟩)
          | (go_at_call 60; refine (within_any _ _ _ _).mono ?_; rintro e w2 ⟨rfl, rfl⟩)
          | (go_at_call 68; refine (HY.out _ (Kd.C_below HA.out HB1.out) (Kd.C_below HB.out HB1.out)).mono ?_; rintro e w2 ⟨v, rfl, hr, hb⟩; obtain ⟨A', c', rfl, _, _⟩ := hr.reads; have HB2 := Lib.hid hb; have HR2 := Lib.hid hr; clear hb hr))
        go_ret3
        have q1 := HB1.out
        have q2 := HB2.out
        exact ⟨_, rfl, HR2.out.R q1.size, below_then q1 q1.size q2⟩
end Go.Proofs.Ytkjojcepombhpaa.L
