/- Value comes to what belt_Value.f says. -/
import Derived.Test.YtkefmlhkejoknaaXClimb
namespace Go.Proofs.Ytkefmlhkejoknaa.L
set_option linter.unusedVariables false
set_option linter.unusedSimpArgs false
open Go.RowKit Go.Shelf Go.Proofs.YtkefmlhkejoknaaW.PrintWords Go.Proofs.YtkefmlhkejoknaaW.PrintLast

set_option maxHeartbeats 2000000 in
theorem belt_Value.calls (a0 : Int) (A1 : Option Addr) (c1 : Nat) (l1 : List S49) (a2 : ByteArray) (r1 r2 : Int) (w : World) (hr1 : Kd.C k49 w A1 l1.length l1) (hc1 : l1.length ≤ c1) (h : belt_Value.f a0 l1 a2 = some (r1, r2)) :
    Calls Try.prog 39 #[.int .i64 a0, .slice A1 l1.length c1, .string a2] w fun e w' => e = .returned (.tuple #[.int .i64 r1, .int .i64 r2]) ∧ Below w.heap.size w w' := by
  have HC := Lib.hid hr1
  rw [belt_Value.f] at h
  by_cases ha2 : a2.size ≤ 140737488351232
  case neg => rw [if_neg ha2] at h; cases h
  rw [if_pos ha2] at h
  have HF := Lib.hid h
  clear hr1 h
  cases hok : graphOk a0 l1 && sideOk a0 a2
  · have HG := Lib.hid hok
    clear hok
    go_enter Try.func39, Try.ntmps39
    go_wp2_with (go_at_call 70; refine (both_any a0 A1 c1 l1 a2 _ HC.out ha2).mono ?_; rintro e w1 ⟨x, rfl, hx, hb⟩; have hg := HG.out; have HB := Lib.hid hb; clear hx hb)
    go_ret2
    have e1 := HF.out
    rw [HG.out] at e1
    simp only [Bool.false_eq_true, if_false, Option.some.injEq, Prod.mk.injEq] at e1
    obtain ⟨rfl, rfl⟩ := e1
    exact ⟨rfl, below_alloc HB.out _⟩
  · have HG := Lib.hid hok
    simp only [Bool.and_eq_true] at hok
    obtain ⟨hg, hsd⟩ := hok
    obtain ⟨h0, hn⟩ := graphOk_n hg
    have hl := graphOk_len hg
    have Hg := Lib.hid hg
    have Hs := Lib.hid hsd
    have HE := Lib.hid (graphOk_edges hg)
    have e1 := HF.out
    rw [HG.out] at e1
    simp only [if_true, Option.some.injEq, Prod.mk.injEq] at e1
    obtain ⟨E1, E2⟩ := e1
    have hs4 := numB_lt a0 a2 a2.size hn h0
    generalize hxx : numB a0 a2 a2.size = xx at E1 hs4
    have HXX := Lib.hid hxx
    have H1 := Lib.hid E1
    subst E2
    clear hg hsd E1 hxx
    go_enter Try.func39, Try.ntmps39
    go_wp2_with (first
      | (go_at_call 70; refine (both_any a0 A1 c1 l1 a2 _ HC.out ha2).mono ?_; rintro e w1 ⟨x, rfl, hx, hb⟩; have hg := HG.out; have hxe := (hx Hg.out Hs.out).1.trans HXX.out; subst hxe; have HB := Lib.hid hb; clear hx hb)
      | (go_at_call 78; refine (value_any a0 A1 c1 _ l1 _ _ hn h0 hs4 (Kd.C_alloc (Kd.C_below HC.out HB.out) _) hl HE.out).mono ?_; rintro e w2 ⟨rfl, hb⟩; have HB2 := Lib.hid hb; clear hb))
    go_ret2
    refine ⟨by have := H1.out; subst this; rfl, ?_⟩
    have q1 := below_alloc HB.out (gbox a0 (.slice A1 l1.length c1) (w.heap.size + 1 + 1))
    exact below_then q1 q1.size HB2.out

end Go.Proofs.Ytkefmlhkejoknaa.L
