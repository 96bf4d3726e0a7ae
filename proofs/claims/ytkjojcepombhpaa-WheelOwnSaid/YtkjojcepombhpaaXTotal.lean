import Derived.Test.YtkjojcepombhpaaXOrbit

/- A loop over an iterator that hands over all of a list, the loop's variable being a box: the contract, and the law for the caller. -/
namespace Go.Proofs.Ytkjojcepombhpaa.L
set_option linter.unusedVariables false
set_option linter.unusedSimpArgs false
open Go.RowKit Go.Shelf Go.Proofs.YtkjojcepombhpaaW.PrintWords Go.Proofs.YtkjojcepombhpaaW.PrintLast Go.Proofs.YtkjojcepombhpaaW.PrintMore

variable {P : Program}

/-- The iterator hands over the elements of T, one after the other. -/
def GivesT {α : Type} (P : Program) (g : Nat) (lb : Array Value) (encs : α → Array Value) (T : List α) (Kp : World → World → Prop) (w : World) : Prop :=
  ∀ (l : Nat) (J : List α → World → Prop) (W : World), Below w.heap.size w W → AbidesFrom W.heap.size J →
    (∀ pre x W1, pre ++ [x] <+: T → J pre W1 → YieldAt Fence.wide 0 P l (encs x) W1 fun e W' => e = .returned (.bool true) ∧ J (pre ++ [x]) W' ∧ Kp W1 W') →
    J [] W →
    ∀ d, CallsIn Fence.wide d P g (#[.func (.yield l) #[] #[]] ++ lb) W fun e W' => (∃ v, e = .returned v) ∧ J T W'

/-- The law for the caller. -/
theorem wpIn_rangeT {α : Type} {n : Nat} {g : Operand} {ps : Array Tmp} {assign body : Code} {Q : Exit → Act → World → Prop} {a : Act} {w : World}
    (h1 : 1 ≤ n) {gf : Nat} {lb : Array Value} (hg : a.eval g = .func (.func gf) #[] lb) (eg : ∀ args w, (callFunc gf args).run P w = .ok (.enter gf args) w)
    {encs : α → Array Value} {T : List α} {Kp : World → World → Prop} {w0 : World} (hseq : GivesT P gf lb encs T Kp w0)
    (hKt : ∀ {A B C : World}, Kp A B → Kp B C → Kp A C) (hKb : ∀ (W : World) (l : Nat) (o o' : Obj), w.heap.size ≤ l → W.heap[l]? = some o → o.isCells = false → o.isWalk = false → Kp W (W.putObj l o')) (hKa : ∀ W W' : World, w.heap.size ≤ W.heap.size → Below W.heap.size W W' → Kp W W') (hb0 : Below w0.heap.size w0 w) (hps : ∀ x, (encs x).size = ps.size)
    (I : List α → World → Prop) (hI : OwnFrom w.heap.size I) (h0 : I [] w) (ty : TypeId) (cs : α → Array Value) (a₁ : α → Nat → Act)
    (hassign : ∀ (l : Nat) (x : α) (b : Nat) (W : World) (K : Act → World → Prop), x ∈ T → W.heap.size = b → (∀ W1, Below b W W1 → Whole W1 b ty (cs x) → K (a₁ x b) W1) →
      assign.wpIn (Fence.wide.inRound l) 0 P (Exit.then K (fun _ _ _ => False)) { tmps := (ps.zip (encs x)).foldl (fun t (p, v) => t.setIfInBounds p v) a.tmps, defers := [] } W)
    (hbody : ∀ (l : Nat) (pre : List α) (x : α) (b : Nat) (W : World), w.heap.size ≤ l → pre ++ [x] <+: T → w.heap.size ≤ b → Whole W b ty (cs x) → I pre W → body.wpIn (Fence.wide.inRound l) 0 P (ownPostG w.heap.size Kp I (fun _ _ _ => False) (pre ++ [x]) W) (a₁ x b) W)
    (hdone : ∀ (D : Nat) (W : World), w.heap.size ≤ D → I T W → W.heap[D]? = some (.deferred (some [])) → D < w.heap.size + 1 → Q .normal { a with defers := { target := .collected D, args := #[] } :: a.defers } W) :
    (Code.rangeFunc g ps assign body).wpIn Fence.wide n P Q a w := by
  refine wpIn_rangeFunc fun fn hfn => ?_
  rw [show Fence.wide.round = none from rfl]
  obtain ⟨mk, hmk⟩ : ∃ mk : LoopState → Option Code → Loop, mk = fun st pe => { state := st, pending := pe, fn, tmps := a.tmps, params := ps, assign, body, defers := w.heap.size } := ⟨_, rfl⟩
  have hlay : (Instr.enterLoop fn a.tmps ps assign body none).run P w = .ok (w.heap.size + 1, [{ target := .collected w.heap.size, args := #[] }]) ((w.alloc (.deferred (some []))).alloc (.loop (mk .ready none))) := by
    rw [hmk]; exact run_enterLoop_outer _ _ _ _ _
  have hR1 : AtRec w (mk .ready none) ((w.alloc (.deferred (some []))).alloc (.loop (mk .ready none))) := by
    constructor
    · have := World.alloc_heap_new (w.alloc (.deferred (some []))) (.loop (mk .ready none)); rwa [World.size_alloc] at this
    · exact (Below.heap_alloc _ _ _ (by simp)).trans (World.alloc_heap_new w _)
  have hI1 : I [] ((w.alloc (.deferred (some []))).alloc (.loop (mk .ready none))) := hI.alloc _ (hI.alloc _ h0)
  have hb1 : Below w0.heap.size w0 ((w.alloc (.deferred (some []))).alloc (.loop (mk .ready none))) := hb0.trans ((((Below.refl _ w).alloc (Nat.le_refl _) _).alloc (by simp) _).mono hb0.size)
  have hs1 : w.heap.size + 2 ≤ ((w.alloc (.deferred (some []))).alloc (.loop (mk .ready none))).heap.size := by simp
  generalize (w.alloc (.deferred (some []))).alloc (.loop (mk .ready none)) = W1 at hlay hR1 hI1 hb1 hs1
  refine ⟨w.heap.size + 1, [{ target := .collected w.heap.size, args := #[] }], W1, { target := .fn (.func gf) lb, args := #[.func (.yield (w.heap.size + 1)) #[] #[]] }, W1, gf, #[.func (.yield (w.heap.size + 1)) #[] #[]] ++ lb, W1, hlay, by simp only [resolve, hg]; simp [go_sem], fun f' hf' => by simp [Target.leads] at hf'; subst hf'; trivial, by simp [invoke, go_sem, eg], fun _ => h1, ?_⟩
  have hrow : ∀ {A : World} {row : Option Nat}, (∀ r, row = some r → W1.heap.size ≤ r ∧ ∃ o : Obj, A.heap[r]? = some o ∧ o.isWalk = true) → (∀ r, row = some r → w.heap.size ≤ r ∧ ∃ o : Obj, A.heap[r]? = some o ∧ o.isCells = false) := by
    intro A row hr r e
    obtain ⟨hB, o, ho, hw⟩ := hr r e
    exact ⟨by omega, o, ho, Obj.not_cells_of_walk hw⟩
  refine (hseq (w.heap.size + 1) (fun pre W => I pre W ∧ AtRec w (mk .ready none) W) W1 hb1
    (fun s A B row hs hg' hr => ⟨hI s A B row hs.1 hg' (hrow hr), hs.2.kept hg' (fun k e => (hr k e).2)⟩)
    ?round ⟨hI1, hR1⟩ _).mono ?behind
  case round =>
    rintro pre x W hpx ⟨hi, hl⟩
    have hy := run_yield (P := P) (args := encs x) hl.1 (by rw [hmk]; exact hps x)
    rw [hmk] at hy
    refine ⟨fn, _, assign, body, hy, roundIn_of_wpIn hfn (hassign _ x _ W _ (hpx.subset (by simp)) rfl ?_)⟩
    have hbW : w.heap.size + 2 ≤ W.heap.size := by have := (Array.getElem?_eq_some_iff.1 hl.1).1; omega
    intro W1' hbe hwh
    have hl1 := hl.kept (grown_of_below hbe none) (fun k e => by cases e)
    have hi1 := hI pre W W1' none hi (grown_of_below hbe none) (fun r e => by cases e)
    have hk1 := hKa W W1' (by omega) hbe
    have hbusy := hl1.put { mk .ready none with state := .busy }
    have hput : ∀ {r : Loop} {A : World}, AtRec w r A → ∀ (o' : Obj), Kp A (A.putObj (w.heap.size + 1) o') := fun h o' => hKb _ _ _ _ (by omega) h.1 rfl rfl
    refine ⟨_, run_beginRound hl1.1 (by rw [hmk]), wpIn_mono (hbody _ pre x W.heap.size _ (by omega) hpx (by omega) (hwh.putObj (by omega) _) (hI.putObj _ hi1 (by omega) hl1.1 rfl)) ?_⟩
    have leave : ∀ (jump : Option Code) (W3 : World), KeepsFrom w.heap.size (W1'.putObj (w.heap.size + 1) (.loop { mk .ready none with state := .busy })) W3 →
        AtRec w { mk .ready none with state := .busy } W3 ∧
        (Instr.endRound (w.heap.size + 1) jump).run P W3 = .ok (.bool jump.isNone) (W3.putObj (w.heap.size + 1) (.loop (mk (if jump.isNone then .ready else .done) jump))) ∧
        AtRec w (mk (if jump.isNone then .ready else .done) jump) (W3.putObj (w.heap.size + 1) (.loop (mk (if jump.isNone then .ready else .done) jump))) := by
      intro jump W3 hk3
      have h3 := hbusy.from hk3
      have := run_endRound (P := P) jump h3.1
      rw [hmk] at this ⊢
      exact ⟨by rw [hmk] at h3; exact h3, this, by rw [hmk] at h3; exact h3.put _⟩
    rintro e a3 W3 hp
    cases e with
    | normal =>
      obtain ⟨hk3, hkp3, hi3⟩ := hp
      obtain ⟨h3, hr, hl4⟩ := leave none W3 hk3
      exact ⟨_, _, hr, rfl, ⟨hI.putObj _ hi3 (by omega) h3.1 rfl, hl4⟩, hKt hk1 (hKt (hKt (hput hl1 _) hkp3) (hput h3 _))⟩
    | ret => exact hp.2.elim
    | exit id => exact hp.2.elim
    | goto t => exact hp.2.elim
    | panic ch => exact hp.elim
    | outgrown => exact hp.elim
  case behind =>
    have shut : ∀ {st : LoopState} {pe : Option Code} {A : World}, st ≠ .busy → AtRec w (mk st pe) A → (Instr.endLoop (w.heap.size + 1)).run P A = .ok pe (A.putObj (w.heap.size + 1) (.loop { mk st pe with state := .exhausted })) := by
      intro st pe A hst h
      have := run_endLoop (P := P) h.1 (by rw [hmk]; exact hst)
      rw [this, hmk]
    rintro e W2 ⟨⟨v, rfl⟩, hi, hl⟩
    exact ⟨none, _, shut (by decide) hl, hdone _ _ (Nat.le_refl _) (hI.putObj _ hi (by omega) hl.1 rfl) (hl.put _).2 (by omega)⟩
end Go.Proofs.Ytkjojcepombhpaa.L
