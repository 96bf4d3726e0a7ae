/- For the rows: an argument that is a slice of edges, opened to its cells. -/
import Derived.Test.YtkefmlhkejoknabL0
import Derived.Deep.Slices
import Derived.Deep.Fields
import Derived.ChangeSame
import Derived.ChangeArms
namespace Go.Proofs.Ytkefmlhkejoknab.L
set_option linter.unusedVariables false
open Go.ChangeShapes Go.WideShapes Go.Deep Go.RowKit Go.Proofs.YtkefmlhkejoknabW.PrintWords Go.Proofs.YtkefmlhkejoknabW.PrintLast

theorem list_of {α : Type} {Q : Nat → α → Prop} (n : Nat) (h : ∀ i, i < n → ∃ x, Q i x) : ∃ l : List α, l.length = n ∧ ∀ (i : Nat) (x : α), l[i]? = some x → Q i x := by
  induction n with
  | zero => exact ⟨[], rfl, fun i x hx => by simp at hx⟩
  | succ n ih =>
    obtain ⟨l, hl, hq⟩ := ih (fun i hi => h i (by omega))
    obtain ⟨x, hx⟩ := h n (by omega)
    refine ⟨l ++ [x], by simp [hl], fun i y hy => ?_⟩
    by_cases hi : i < n
    · rw [List.getElem?_append_left (by omega)] at hy
      exact hq i y hy
    · have : i = n := by have := (List.getElem?_eq_some_iff.1 hy).1; simp [hl] at this; omega
      subst this
      rw [List.getElem?_append_right (by omega), hl] at hy
      simp at hy
      subst hy
      exact hx

theorem three_of {α : Type} {l : List α} (h : l.length = 3) : ∃ a b c, l = [a, b, c] := by
  match l, h with
  | [a, b, c], _ => exact ⟨a, b, c, rfl⟩

theorem open_edges {H : Type} {enc : TypeId × Value → H} {W : World} {base : Nat} {spare : Nat → Bool} {held : Bool} {a : Option Addr} {len cap : Nat} {d : DataW H} {p : List MemPlace} (h : DataW.Trod enc Try.prog W base spare held 22 (.slice a len cap) d p) :
    ∃ l : List S46, l.length = len ∧ len ≤ cap ∧ Kd.C k46 W a len l := by
  obtain ⟨fuel, hf⟩ := h
  rcases open_slice Try.underlying22 hf with ⟨hcs, _⟩ | ⟨x, len', cap', m, n, D, Pl, hcs, hb, hl, hm, hmm, hx, hi⟩
  · simp [Value.cells] at hcs
    obtain ⟨rfl, rfl, rfl⟩ := hcs
    exact ⟨[], rfl, Nat.le_refl _, rfl, by omega, fun h => by omega⟩
  · simp [Value.cells] at hcs
    obtain ⟨rfl, rfl, rfl⟩ := hcs
    have hC : Try.prog.cellsOf 46 = 3 := by kernel_rfl
    have key : ∀ i, i < len → ∃ y : S46, ∀ j u, ([Value.int .i64 y.f0, .int .i64 y.f1, .int .i64 y.f2] : List Value)[j]? = some u → W.cell? (x.add (i * 3 + j)) = some u := by
      intro i hil
      obtain ⟨cs', hc, ht'⟩ := hi i (by rw [hmm]; split <;> omega)
      rw [hC] at hc
      obtain ⟨ys, n', hn', hy, hlen, hyl, hff⟩ := DataW.trod_struct Try.underlying46 ht'
      obtain ⟨_, hcl, hat⟩ := World.cells?_some hc
      have c3 : Try.prog.cellsOf 3 = 1 := by kernel_rfl
      have h0 := hff 0 ⟨ "A", 3, 0, false, "", "", 0⟩ rfl
      have h1 := hff 1 ⟨ "B", 3, 1, false, "", "", 8⟩ rfl
      have h2 := hff 2 ⟨ "Weight", 3, 2, false, "", "", 16⟩ rfl
      dsimp only at h0 h1 h2
      rw [c3] at h0 h1 h2
      obtain ⟨v0, v1, v2, rfl⟩ := three_of hcl
      obtain ⟨y0, y1, y2, rfl⟩ := three_of (show ys.length = 3 from hyl)
      have g0 : DataW.trod enc Try.prog W base spare held n' 3 [v0] = some y0 := h0
      have g1 : DataW.trod enc Try.prog W base spare held n' 3 [v1] = some y1 := h1
      have g2 : DataW.trod enc Try.prog W base spare held n' 3 [v2] = some y2 := h2
      obtain ⟨n0, e0, _, _⟩ := DataW.trod_int Try.underlying3 g0
      obtain ⟨n1, e1, _, _⟩ := DataW.trod_int Try.underlying3 g1
      obtain ⟨n2, e2, _, _⟩ := DataW.trod_int Try.underlying3 g2
      cases e0
      cases e1
      cases e2
      refine ⟨⟨n0, n1, n2⟩, fun j u hu => ?_⟩
      have hj : j < 3 := by have := (List.getElem?_eq_some_iff.1 hu).1; simpa using this
      rw [← Go.Deep.add_add, hat j hj]
      exact hu
    obtain ⟨l, hll, hlq⟩ := list_of len key
    refine ⟨l, hll, hl, hll, by have : cap ≤ maxLen := hm; simp only [maxLen] at this; omega, fun _ => ⟨x, rfl, fun j y hy => ⟨[.int .i64 y.f0, .int .i64 y.f1, .int .i64 y.f2], rfl, k46_mk W y, fun i u hu => hlq j y hy i u hu⟩⟩⟩

end Go.Proofs.Ytkefmlhkejoknab.L
