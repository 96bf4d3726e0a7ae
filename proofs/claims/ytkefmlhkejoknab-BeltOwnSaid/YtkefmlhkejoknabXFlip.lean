/- The reference's Flip, by hand: a side with one character changed. -/
import Derived.Test.YtkefmlhkejoknabXBest
namespace Go.Proofs.Ytkefmlhkejoknab.L
set_option linter.unusedVariables false
set_option linter.unusedSimpArgs false
open Go.RowKit Go.Shelf Go.Proofs.YtkefmlhkejoknabW.PrintWords Go.Proofs.YtkefmlhkejoknabW.PrintLast

def remouldref05_Flip.f (s : ByteArray) (i : Int) : Option ByteArray :=
  if 0 ≤ i ∧ i < (s.size : Int) ∧ s.size ≤ 140737488351232 then some ((s.extract 0 i.toNat ++ (if bt s i = 48 then (⟨#[49]⟩ : ByteArray) else ⟨#[48]⟩)) ++ s.extract (i.toNat + 1) s.size) else none

set_option maxHeartbeats 1000000 in
theorem remouldref05_Flip.calls (a0 : ByteArray) (a1 : Int) (r : ByteArray) (w : World) (h : remouldref05_Flip.f a0 a1 = some r) :
    Calls Try.prog 51 #[.string a0, .int .i64 a1] w fun e w' => e = .returned (.string r) ∧ Below w.heap.size w w' := by
  rw [remouldref05_Flip.f] at h
  by_cases hc : 0 ≤ a1 ∧ a1 < (a0.size : Int) ∧ a0.size ≤ 140737488351232
  case neg => rw [if_neg hc] at h; cases h
  rw [if_pos hc] at h
  obtain ⟨h0, h1, h2⟩ := hc
  obtain ⟨i, rfl⟩ := Int.eq_ofNat_of_zero_le h0
  have hi : i < a0.size := by omega
  have hb := bt_at a0 (i : Int) (by simpa using hi)
  simp only [Int.toNat_natCast] at hb h
  have H := Lib.hid h
  clear h
  by_cases c : bt a0 (i : Int) = 48
  · have d : ((a0[i].toNat : Int) == 48) = true := by rw [hb]; simp [c]
    have HC := Lib.hid c
    have HB := Lib.hid hb
    clear hb c
    go_enter Try.func51, Try.ntmps51
    go_wp2
    go_quiet (fail)
    go_wp2
    go_ret
    have h := H.out
    rw [if_pos HC.out] at h
    cases h
    exact ⟨rfl, pw_below_drewN (Below.refl _ _) _⟩
  · have d : ((a0[i].toNat : Int) == 48) = false := by rw [hb]; simpa using c
    have HC := Lib.hid c
    have HB := Lib.hid hb
    clear hb c
    go_enter Try.func51, Try.ntmps51
    go_wp2
    go_quiet (fail)
    go_wp2
    go_ret
    have h := H.out
    rw [if_neg HC.out] at h
    cases h
    exact ⟨rfl, pw_below_drewN (Below.refl _ _) _⟩

end Go.Proofs.Ytkefmlhkejoknab.L
