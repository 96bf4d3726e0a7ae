/- Sides comes to what belt_Sides.f says. -/
import Derived.Test.YtkefmlhkejoknaaB13
namespace Go.Proofs.Ytkefmlhkejoknaa.L
set_option linter.unusedVariables false
set_option linter.unusedSimpArgs false
open Go.RowKit Go.Shelf Go.Proofs.YtkefmlhkejoknaaW.PrintWords Go.Proofs.YtkefmlhkejoknaaW.PrintLast

set_option maxHeartbeats 2000000 in
theorem belt_Sides.calls (a0 : Int) (A1 : Option Addr) (c1 : Nat) (l1 : List S49) (r1 : ByteArray) (r2 : Int) (w : World) (hr1 : Kd.C k49 w A1 l1.length l1) (hc1 : l1.length ≤ c1) (h : belt_Sides.f a0 l1 = some (r1, r2)) :
    Calls Try.prog 40 #[.int .i64 a0, .slice A1 l1.length c1] w fun e w' => e = .returned (.tuple #[.string r1, .int .i64 r2]) ∧ Below w.heap.size w w' := by
  have HC := Lib.hid hr1
  have HF := Lib.hid h
  clear hr1 h
  cases hg : graphOk a0 l1
  · have HG := Lib.hid hg
    clear hg
    go_enter Try.func40, Try.ntmps40
    go_wp2_with (go_at_call 64; refine (newGraph_any a0 A1 c1 l1 _ HC.out).mono ?_; rintro e w1 ⟨rfl, hb, _⟩; have hg := HG.out)
    go_ret2
    have e1 := HF.out
    rw [belt_Sides.f, HG.out] at e1
    simp only [Bool.false_eq_true, if_false, Option.some.injEq, Prod.mk.injEq] at e1
    obtain ⟨rfl, rfl⟩ := e1
    exact ⟨rfl, below_alloc hb _⟩
  · obtain ⟨h0, hn⟩ := graphOk_n hg
    have HG := Lib.hid hg
    clear hg
    have e1 := HF.out
    rw [belt_Sides.f, HG.out] at e1
    simp only [if_true, Option.some.injEq] at e1
    cases hv : evenB a0 l1 with
    | none =>
      rw [hv] at e1
      simp only [Prod.mk.injEq] at e1
      obtain ⟨rfl, rfl⟩ := e1
      have HV := Lib.hid hv
      clear hv
      go_enter Try.func40, Try.ntmps40
      go_wp2_with (first
        | (go_at_call 64; refine (newGraph_any a0 A1 c1 l1 _ HC.out).mono ?_; rintro e w1 ⟨rfl, hb, hm⟩; have hg := HG.out; have HB1 := Lib.hid hb; clear hm hb)
        | (go_at_call 75; refine (even_no a0 A1 c1 _ l1 _ HG.out (Kd.C_alloc (Kd.C_below HC.out HB1.out) _) HV.out).mono ?_; rintro e w2 ⟨⟨s, rfl⟩, hb⟩; have HB3 := Lib.hid hb; clear hb))
      go_ret2
      have q1 := below_alloc HB1.out (gbox a0 (.slice A1 l1.length c1) (w.heap.size + 1))
      exact ⟨rfl, below_then q1 q1.size HB3.out⟩
    | some s =>
      rw [hv] at e1
      simp only [Prod.mk.injEq] at e1
      obtain ⟨rfl, rfl⟩ := e1
      have HV := Lib.hid hv
      clear hv
      go_enter Try.func40, Try.ntmps40
      go_wp2_with (first
        | (go_at_call 64; refine (newGraph_any a0 A1 c1 l1 _ HC.out).mono ?_; rintro e w1 ⟨rfl, hb, hm⟩; have hg := HG.out; have HB1 := Lib.hid hb; clear hm hb)
        | (go_at_call 75; refine (even_yes a0 A1 c1 _ l1 s _ HG.out (Kd.C_alloc (Kd.C_below HC.out HB1.out) _) HV.out).mono ?_; rintro e w2 ⟨rfl, hs4, hb⟩; have HB2 := Lib.hid (below_cells hb); have HB3 := Lib.hid hb; clear hb; obtain ⟨hb4, _⟩ := HB2.out; have hb5 := HB3.out.size; simp only [World.size_alloc] at hb5)
        | (go_at_call 67; refine (text_any a0 _ _ _ _ rfl hn h0 hs4).mono ?_; rintro e w3 ⟨rfl, hb⟩; have HB4 := Lib.hid hb; clear hb))
      go_ret2
      refine ⟨rfl, ?_⟩
      have q1 := below_alloc HB1.out (gbox a0 (.slice A1 l1.length c1) (w.heap.size + 1))
      have q2 := below_then q1 q1.size HB3.out
      exact below_then q2 q2.size HB4.out

end Go.Proofs.Ytkefmlhkejoknaa.L
