/- For the rows: an argument that is a list of lists of numbers, opened to its cells. -/
import Derived.Test.YtkefmlhkejoknaaR0
namespace Go.Proofs.Ytkefmlhkejoknaa.L
set_option linter.unusedVariables false
open Go.ChangeShapes Go.WideShapes Go.Deep Go.RowKit Go.Proofs.YtkefmlhkejoknaaW.PrintWords Go.Proofs.YtkefmlhkejoknaaW.PrintLast

theorem one_of {α : Type} {l : List α} (h : l.length = 1) : ∃ a, l = [a] := by
  match l, h with
  | [a], _ => exact ⟨a, rfl⟩

theorem open_row39 {H : Type} {enc : TypeId × Value → H} {W : World} {base : Nat} {spare : Nat → Bool} {held : Bool} {fuel : Nat} {cs : List Value} {y : DataW H × List MemPlace} (h : DataW.trod enc Try.prog W base spare held fuel 39 cs = some y) :
    ∃ l : List Int, Kd.K (Kd.slice 3 (Kd.int .i64)) W l cs := by
  rcases open_ints Try.underlying39 Try.underlying3 (by kernel_rfl) h with ⟨rfl, _⟩ | ⟨a, len, cap, zs, rfl, hb, hl, hm, hz, _, hx, _⟩
  · exact ⟨[], none, 0, rfl, Nat.le_refl _, rfl, by simp, fun h => by simp at h⟩
  · have hle : len ≤ zs.length := by rw [hz]; split <;> omega
    have hlen : (zs.take len).length = len := by simp; omega
    refine ⟨zs.take len, some a, cap, by rw [hlen], by rw [hlen]; exact hl, rfl, by rw [hlen]; have : cap ≤ maxLen := hm; simp only [maxLen] at this; omega, fun _ => ⟨a, rfl, fun j z hz2 => ⟨[.int .i64 z], rfl, rfl, fun i u hu => ?_⟩⟩⟩
    have hj : j < len := by have := (List.getElem?_eq_some_iff.1 hz2).1; omega
    cases i with
    | succ i => simp at hu
    | zero =>
      simp at hu
      subst hu
      have := hx j (by omega)
      rw [List.getElem?_take, if_pos hj] at hz2
      rw [List.getD_eq_getElem?_getD, hz2] at this
      have e : j * (Kd.int .i64).sz + 0 = j := by show j * 1 + 0 = j; omega
      rw [e]
      exact this

theorem open_lists {H : Type} {enc : TypeId × Value → H} {W : World} {base : Nat} {spare : Nat → Bool} {held : Bool} {a : Option Addr} {len cap : Nat} {d : DataW H} {p : List MemPlace} (h : DataW.Trod enc Try.prog W base spare held 72 (.slice a len cap) d p) :
    ∃ l : List (List Int), l.length = len ∧ len ≤ cap ∧ Kd.C (Kd.slice 3 (Kd.int .i64)) W a len l := by
  obtain ⟨fuel, hf⟩ := h
  rcases open_slice Try.underlying72 hf with ⟨hcs, _⟩ | ⟨x, len', cap', m, n, D, Pl, hcs, hb, hl, hm, hmm, hx, hi⟩
  · simp [Value.cells] at hcs
    obtain ⟨rfl, rfl, rfl⟩ := hcs
    exact ⟨[], rfl, Nat.le_refl _, rfl, by omega, fun h => by omega⟩
  · simp [Value.cells] at hcs
    obtain ⟨rfl, rfl, rfl⟩ := hcs
    have hC : Try.prog.cellsOf 39 = 1 := by kernel_rfl
    have key : ∀ i, i < len → ∃ y : List Int, ∃ cs, Kd.K (Kd.slice 3 (Kd.int .i64)) W y cs ∧ ∀ j u, cs[j]? = some u → W.cell? (x.add (i * 1 + j)) = some u := by
      intro i hil
      obtain ⟨cs', hc, ht'⟩ := hi i (by rw [hmm]; split <;> omega)
      rw [hC] at hc
      obtain ⟨_, hcl, hat⟩ := World.cells?_some hc
      obtain ⟨v, rfl⟩ := one_of hcl
      obtain ⟨y, hy⟩ := open_row39 ht'
      refine ⟨y, [v], hy, fun j u hu => ?_⟩
      have hj : j < 1 := by have := (List.getElem?_eq_some_iff.1 hu).1; simpa using this
      rw [← Go.Deep.add_add, hat j hj]
      exact hu
    obtain ⟨l, hll, hlq⟩ := list_of len key
    refine ⟨l, hll, hl, hll, by have : cap ≤ maxLen := hm; simp only [maxLen] at this; omega, fun _ => ⟨x, rfl, fun j y hy => ?_⟩⟩
    obtain ⟨cs, h1, h2⟩ := hlq j y hy
    exact ⟨cs, (Kd.slice 3 (Kd.int .i64)).K_len h1, h1, h2⟩

end Go.Proofs.Ytkefmlhkejoknaa.L
