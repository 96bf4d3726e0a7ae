/- Plain law: odd cycles laid apart, depth first. -/
import Derived.Test.YtkefmlhkejoknabXBest
namespace Go.Proofs.Ytkefmlhkejoknab.L
set_option linter.unusedVariables false
set_option linter.unusedSimpArgs false

/-- How slices.Compare answers. -/
def cmpRows : List Int → List Int → Int
  | [], [] => 0
  | [], _ :: _ => -1
  | _ :: _, [] => 1
  | a :: s, b :: t => if a < b then -1 else if b < a then 1 else cmpRows s t
theorem cmpRows_self : ∀ l : List Int, cmpRows l l = 0
  | [] => rfl
  | a :: s => by rw [cmpRows, if_neg (by omega), if_neg (by omega), cmpRows_self s]
theorem cmpRows_eq : ∀ {a b : List Int}, cmpRows a b = 0 → a = b
  | [], [], _ => rfl
  | [], _ :: _, h => by simp [cmpRows] at h
  | _ :: _, [], h => by simp [cmpRows] at h
  | a :: s, b :: t, h => by
    rw [cmpRows] at h
    split at h
    · simp at h
    · split at h
      · simp at h
      · rw [cmpRows_eq h, show a = b by omega]
theorem cmpRows_anti : ∀ a b : List Int, cmpRows b a = - cmpRows a b
  | [], [] => rfl
  | [], _ :: _ => rfl
  | _ :: _, [] => rfl
  | a :: s, b :: t => by
    rw [cmpRows, cmpRows]
    by_cases h1 : a < b
    · rw [if_pos h1, if_neg (by omega), if_pos h1]; rfl
    · by_cases h2 : b < a
      · rw [if_pos h2, if_neg h1, if_pos h2]
      · rw [if_neg h1, if_neg h2, if_neg h2, if_neg h1, cmpRows_anti s t]
theorem cmpRows_trans : ∀ {a b c : List Int}, cmpRows a b < 0 → cmpRows b c < 0 → cmpRows a c < 0
  | [], [], _, h, _ => by simp [cmpRows] at h
  | [], _ :: _, [], _, h => by simp [cmpRows] at h
  | [], _ :: _, _ :: _, _, _ => by simp [cmpRows]
  | _ :: _, [], _, h, _ => by simp [cmpRows] at h
  | _ :: _, _ :: _, [], _, h => by simp [cmpRows] at h
  | a :: s, b :: t, c :: u, h1, h2 => by
    rw [cmpRows] at h1 h2 ⊢
    by_cases e1 : a < b
    · by_cases e2 : b < c
      · rw [if_pos (by omega)]; omega
      · rw [if_neg e2] at h2
        by_cases e3 : c < b
        · rw [if_pos e3] at h2; omega
        · rw [if_pos (by omega)]; omega
    · rw [if_neg e1] at h1
      by_cases e2 : b < a
      · rw [if_pos e2] at h1; omega
      · rw [if_neg e2] at h1
        by_cases e3 : b < c
        · rw [if_pos (by omega)]; omega
        · rw [if_neg e3] at h2
          by_cases e4 : c < b
          · rw [if_pos e4] at h2; omega
          · rw [if_neg e4] at h2
            rw [if_neg (by omega), if_neg (by omega)]
            exact cmpRows_trans h1 h2

def allB (n : Int) (l : List S46) : List (List Int) := (oddSizes n).flatMap fun k => cyclesB n l k
def sortB (L : List (List Int)) : List (List Int) := L.mergeSort fun a b => !decide (cmpRows b a < 0)
def disjB (c : List Int) (us : List (Int × Int)) : Bool := !(endsB c).any fun p => us.contains p
def bump (now best : List (List Int)) : List (List Int) := if best.length < now.length then now else best
/-- What is chosen from the rest on. -/
def layB : List (List Int) → List (List Int) → List (List Int) → List (List Int)
  | [], _, best => best
  | c :: rest, now, best => layB rest now (if disjB c (now.flatMap endsB) then layB rest (now ++ [c]) (bump (now ++ [c]) best) else best)
def apartB (n : Int) (l : List S46) : List (List Int) := layB (sortB (allB n l)) [] []
def belt_Apart.f (n : Int) (l : List S46) : Option (List (List Int) × Int) := some (if graphOk n l && decide (l.length ≤ 12) then (apartB n l, 0) else ([], 2))

/-- Each has none of the pairs of those ahead of it. -/
def Laid : List (Int × Int) → List (List Int) → Prop
  | _, [] => True
  | us, c :: cs => disjB c us = true ∧ Laid (us ++ endsB c) cs
theorem Laid.snoc : ∀ {us : List (Int × Int)} {cs : List (List Int)} {c : List Int}, Laid us cs → disjB c (us ++ cs.flatMap endsB) = true → Laid us (cs ++ [c])
  | us, [], c, _, h => ⟨by simpa using h, trivial⟩
  | us, d :: cs, c, ⟨h1, h2⟩, h => ⟨h1, Laid.snoc h2 (by simpa [List.append_assoc] using h)⟩
theorem bump_ge (now best : List (List Int)) : best.length ≤ (bump now best).length ∧ now.length ≤ (bump now best).length := by
  unfold bump
  split <;> omega
theorem layB_ge : ∀ (rest now best : List (List Int)), best.length ≤ (layB rest now best).length
  | [], _, _ => Nat.le_refl _
  | c :: rest, now, best => by
    rw [layB]
    refine Nat.le_trans ?_ (layB_ge rest now _)
    split
    · exact Nat.le_trans (bump_ge _ _).1 (layB_ge rest _ _)
    · exact Nat.le_refl _
/-- Any property of families that holds at the start and for what is laid one more holds at the end. -/
theorem layB_keeps (S : List (List Int)) (Q : List (List Int) → Prop) : ∀ (rest now best : List (List Int)), (∀ c ∈ rest, c ∈ S) → Laid [] now → (∀ c ∈ now, c ∈ S) → (∀ now', Laid [] now' → (∀ c ∈ now', c ∈ S) → Q now') → Q best → Q (layB rest now best)
  | [], _, _, _, _, _, _, h => h
  | c :: rest, now, best, hS, hL, hn, hQ, hb => by
    rw [layB]
    refine layB_keeps S Q rest now _ (fun x hx => hS x (List.mem_cons_of_mem _ hx)) hL hn hQ ?_
    split
    · rename_i hd
      have hL2 : Laid [] (now ++ [c]) := hL.snoc (by simpa using hd)
      have hn2 : ∀ x ∈ now ++ [c], x ∈ S := by
        intro x hx
        rcases List.mem_append.1 hx with h | h
        · exact hn x h
        · rw [List.mem_singleton.1 h]; exact hS c List.mem_cons_self
      refine layB_keeps S Q rest (now ++ [c]) _ (fun x hx => hS x (List.mem_cons_of_mem _ hx)) hL2 hn2 hQ ?_
      unfold bump
      split
      · exact hQ _ hL2 hn2
      · exact hb
    · exact hb
theorem apartB_is (n : Int) (l : List S46) : Laid [] (apartB n l) ∧ ∀ c ∈ apartB n l, c ∈ allB n l := by
  have h := layB_keeps (allB n l) (fun cs => Laid [] cs ∧ ∀ c ∈ cs, c ∈ allB n l) (sortB (allB n l)) [] [] (fun c hc => (List.mergeSort_perm _ _).mem_iff.1 hc) trivial (by simp) (fun now h1 h2 => ⟨h1, h2⟩) ⟨trivial, by simp⟩
  exact h
theorem apartB_nil {n : Int} {l : List S46} (h : apartB n l = []) : allB n l = [] := by
  have hp := List.mergeSort_perm (allB n l) (fun a b => !decide (cmpRows b a < 0))
  unfold apartB sortB at h
  cases hs : (allB n l).mergeSort (fun a b => !decide (cmpRows b a < 0)) with
  | nil =>
    rw [hs] at hp
    exact (List.Perm.nil_eq hp).symm
  | cons c rest =>
    exfalso
    rw [hs, layB] at h
    have hd : disjB c (([] : List (List Int)).flatMap endsB) = true := by simp [disjB]
    rw [if_pos hd] at h
    have h1 := layB_ge rest [] (layB rest ([] ++ [c]) (bump ([] ++ [c]) []))
    have h2 := layB_ge rest ([] ++ [c]) (bump ([] ++ [c]) [])
    have h3 := (bump_ge ([] ++ [c]) []).2
    rw [h] at h1
    simp at h1 h2 h3
    rw [h1] at h2
    simp at h2
    rw [h2] at h3
    simp at h3
end Go.Proofs.Ytkefmlhkejoknab.L
