/- A map that the call makes, pairs by true, out of which entries are taken again. -/
import Derived.Test.YtkefmlhkejoknabXCheck
namespace Go.Proofs.Ytkefmlhkejoknab.L
set_option linter.unusedVariables false
set_option linter.unusedSimpArgs false
open Go.RowKit Go.Shelf Go.Proofs.YtkefmlhkejoknabW.PrintWords Go.Proofs.YtkefmlhkejoknabW.PrintLast Go.Proofs.YtkefmlhkejoknabW.PrintMore

def entK (q : (Int × Int) × Nat) : MapEntry := { key := pairV q.1.1 q.1.2, val := .bool true, born := q.2 }
/-- Block m of w is such a map: its keys are ks. -/
def MapK (w : World) (m : Nat) (ks : List (Int × Int)) : Prop := ∃ (es : List ((Int × Int) × Nat)) (ck : Nat), w.heap[m]? = some (.map (es.map entK).toArray ck) ∧ es.map (·.1) = ks
section
variable {w w' : World} {m : Nat} {ks : List (Int × Int)}
theorem MapK.lt (h : MapK w m ks) : m < w.heap.size := by obtain ⟨es, ck, h, _⟩ := h; exact (Array.getElem?_eq_some_iff.1 h).1
theorem MapK.kept (h : MapK w m ks) (hk : w'.heap[m]? = w.heap[m]?) : MapK w' m ks := by obtain ⟨es, ck, h, he⟩ := h; exact ⟨es, ck, hk.trans h, he⟩
theorem MapK.below (h : MapK w m ks) (hb : Below w.heap.size w w') : MapK w' m ks := h.kept (hb.block m h.lt)
theorem MapK.new (w : World) : MapK (w.alloc (.map #[] 0)) w.heap.size [] := ⟨[], 0, World.alloc_heap_new w _, rfl⟩
end
def findK (a b : Int) : List ((Int × Int) × Nat) → Nat → Option (Nat × Value)
  | [], _ => none
  | q :: es, i => if (a == q.1.1 && b == q.1.2) = true then some (i, .bool true) else findK a b es (i + 1)
theorem findK_some (a b : Int) (es : List ((Int × Int) × Nat)) : ∀ i, (findK a b es i = none ∧ (es.map (·.1)).contains (a, b) = false ∧ (es.map (·.1)).erase (a, b) = es.map (·.1)) ∨
    ∃ j, findK a b es i = some (i + j, .bool true) ∧ (es.map (·.1)).contains (a, b) = true ∧ j < es.length ∧ (es.eraseIdx j).map (·.1) = (es.map (·.1)).erase (a, b) := by
  induction es with
  | nil => exact fun i => .inl ⟨rfl, rfl, rfl⟩
  | cons q es ih =>
    intro i
    unfold findK
    by_cases h : (a == q.1.1 && b == q.1.2) = true
    · refine .inr ⟨0, by rw [if_pos h]; rfl, ?_⟩
      simp only [Bool.and_eq_true, beq_iff_eq] at h
      have : (a, b) = q.1 := Prod.ext h.1 h.2
      rw [this]
      exact ⟨by simp, by simp, by simp⟩
    · rw [if_neg h]
      have hne : ¬ (a, b) = q.1 := fun e => h (by rw [← e]; simp)
      have hbe : (q.1 == (a, b)) = false := by
        rw [beq_eq_false_iff_ne]
        exact fun e => hne e.symm
      rcases ih (i + 1) with ⟨h1, h2, h3⟩ | ⟨j, h1, h2, h3, h4⟩
      · refine .inl ⟨h1, ?_, ?_⟩
        · rw [Bool.eq_false_iff] at h2 ⊢
          intro hc
          rw [List.contains_iff_mem, List.map_cons, List.mem_cons] at hc
          rcases hc with hc | hc
          · exact hne hc
          · exact h2 (by rw [List.contains_iff_mem]; exact hc)
        · rw [List.map_cons, List.erase_cons, hbe, h3]
          rfl
      · refine .inr ⟨j + 1, by rw [h1, show i + 1 + j = i + (j + 1) by omega], ?_, by simpa using h3, ?_⟩
        · rw [List.contains_iff_mem] at h2 ⊢
          exact List.mem_cons_of_mem _ h2
        · rw [List.eraseIdx_cons_succ, List.map_cons, h4, List.map_cons, List.erase_cons, hbe]
          rfl
theorem run_findAskingK (a b : Int) (w : World) : ∀ (es : List ((Int × Int) × Nat)) (i : Nat), (Instr.findAsking 68 (pairV a b) (es.map entK) i).run Try.prog w = .ok (findK a b es i) w := by
  intro es
  induction es with
  | nil => intro i; rfl
  | cons q es ih =>
    intro i
    simp only [List.map_cons, Instr.findAsking, Sem.run_bind]
    have : (entK q).key = pairV q.1.1 q.1.2 := rfl
    rw [this, equal_pair]
    simp only [Result.andThen_ok]
    unfold findK
    by_cases h : (a == q.1.1 && b == q.1.2) = true
    · rw [if_pos h, if_pos h]; rfl
    · rw [if_neg h, if_neg h]
      exact ih (i + 1)
theorem run_findKeyK (a b : Int) (es : List ((Int × Int) × Nat)) (w : World) : (Instr.findKey 68 (pairV a b) (es.map entK)).run Try.prog w = .ok (findK a b es 0) w := by
  unfold Instr.findKey
  simp only [Sem.run_bind, run_underlying Try.underlying68, Result.andThen_ok]
  cases es with
  | nil => rfl
  | cons q es =>
    have hn : ∀ d, Instr.findNow (.struct d) (pairV a b) ((q :: es).map entK) 0 = none := fun d => rfl
    rw [hn]
    exact run_findAskingK a b w (q :: es) 0
theorem MapK.look {w : World} {m : Nat} {ks : List (Int × Int)} (h : MapK w m ks) (a b : Int) : (Instr.lookup 61 (.map (some m)) (pairV a b) false).run Try.prog w = .ok (.bool (ks.contains (a, b))) w := by
  obtain ⟨es, ck, h, rfl⟩ := h
  have hz : (zeroValue 4).run Try.prog w = .ok (.bool false) w := by kernel_rfl
  have hg : (getObj m).run Try.prog w = .ok (.map (es.map entK).toArray ck) w := by
    simp [getObj, Sem.run, h]
  have hk := checkKey_pair (es.map entK).toArray.isEmpty a b w
  have hf := run_findKeyK a b es w
  rcases findK_some a b es 0 with ⟨h1, h2, _⟩ | ⟨j, h1, h2, _⟩
  · rw [h1] at hf
    simp only [Instr.lookup, Sem.run_bind, run_underlying under61, Result.andThen_ok, hg, Sem.run_pure, hk, hf, hz, h2]
    rfl
  · rw [h1] at hf
    simp only [Instr.lookup, Sem.run_bind, run_underlying under61, Result.andThen_ok, hg, Sem.run_pure, hk, hf, h2]
    rfl
/-- A pair that is not in it. -/
theorem MapK.put {w : World} {m : Nat} {ks : List (Int × Int)} (h : MapK w m ks) (a b : Int) (hno : ks.contains (a, b) = false) :
    ∃ o, (Instr.mapUpdate 61 (.map (some m)) (pairV a b) (.bool true)).run Try.prog w = .ok () (w.putObj m o) ∧ MapK (w.putObj m o) m (ks ++ [(a, b)]) := by
  obtain ⟨es, ck, h, rfl⟩ := h
  have hg : (getObj m).run Try.prog w = .ok (.map (es.map entK).toArray ck) w := by
    simp [getObj, Sem.run, h]
  have hk := checkKey_pair false a b w
  have hf := run_findKeyK a b es w
  rcases findK_some a b es 0 with ⟨h1, h2, _⟩ | ⟨j, h1, h2, _⟩
  · rw [h1] at hf
    refine ⟨.map ((es ++ [((a, b), ck)]).map entK).toArray (ck + 1), ?_, es ++ [((a, b), ck)], ck + 1, World.putObj_heap_same (Array.getElem?_eq_some_iff.1 h).1, by simp⟩
    simp only [Instr.mapUpdate, Sem.run_bind, run_underlying under61, Result.andThen_ok, hg, hk, hf]
    simp [setObj, Sem.run, h, World.putObj, entK]
  · rw [hno] at h2; cases h2
/-- A pair is taken out. -/
theorem MapK.drop {w : World} {m : Nat} {ks : List (Int × Int)} (h : MapK w m ks) (a b : Int) (ty : TypeId) :
    ∃ o, (Builtin.delete_ #[61, 68] ty #[.map (some m), pairV a b]).run Try.prog w = .ok (.tuple #[]) (w.putObj m o) ∧ MapK (w.putObj m o) m (ks.erase (a, b)) := by
  obtain ⟨es, ck, h, rfl⟩ := h
  have hg : (getObj m).run Try.prog w = .ok (.map (es.map entK).toArray ck) w := by
    simp [getObj, Sem.run, h]
  have hk := checkKey_pair (es.map entK).toArray.isEmpty a b w
  have hf := run_findKeyK a b es w
  rcases findK_some a b es 0 with ⟨h1, _, h3⟩ | ⟨j, h1, _, h3, h4⟩
  · rw [h1] at hf
    refine ⟨.map (es.map entK).toArray ck, ?_, es, ck, World.putObj_heap_same (Array.getElem?_eq_some_iff.1 h).1, h3.symm⟩
    simp only [Builtin.delete_, List.getElem?_toArray, List.getElem?_cons_zero, List.getElem?_cons_succ, Sem.run_bind, run_underlying under61, Result.andThen_ok, hg, hk, hf]
    simp [setObj, Sem.run, h, World.putObj]
  · rw [h1, Nat.zero_add] at hf
    refine ⟨.map ((es.eraseIdx j).map entK).toArray ck, ?_, es.eraseIdx j, ck, World.putObj_heap_same (Array.getElem?_eq_some_iff.1 h).1, h4⟩
    simp only [Builtin.delete_, List.getElem?_toArray, List.getElem?_cons_zero, List.getElem?_cons_succ, Sem.run_bind, run_underlying under61, Result.andThen_ok, hg, hk, hf]
    have e : (es.map entK).toArray.eraseIdxIfInBounds j = ((es.eraseIdx j).map entK).toArray := by
      apply Array.ext'
      simp [Array.eraseIdxIfInBounds, h3, List.eraseIdx_eq_take_drop_succ, List.map_take, List.map_drop]
    simp [setObj, Sem.run, h, World.putObj, e]
end Go.Proofs.Ytkefmlhkejoknab.L
