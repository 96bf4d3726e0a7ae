/- A loop over an iterator that need not end by itself: the contract, and the law for the caller. -/
import Derived.Test.YtkjojcepombhpaaXBase
import Derived.Laws.EntriesVeiled
import Derived.WalkMore
import Derived.Scope
import Derived.Sort.LoopGhostIn
import Derived.Maps.OwnIn
namespace Go.Proofs.Ytkjojcepombhpaa.L
set_option linter.unusedVariables false
set_option linter.unusedSimpArgs false
open Go.RowKit Go.Shelf

variable {F : Fence} {n : Nat} {P : Program}

/-- The iterator hands over values; of each, where it is handed over, Cx holds. The body takes no more than Bd lets in; the iterator writes into blocks ow. -/
def GivesB {α : Type} (F : Fence) (n : Nat) (P : Program) (g : Nat) (lb : Array Value) (encs : α → Array Value) (Bd : List α → Prop) (ow : Nat → Prop) (Cx : α → World → Prop) (Kp : World → World → Prop) (S Sp : List α → Prop) (w : World) : Prop :=
  ∀ (l : Nat) (J Jx : List α → World → Prop) (W : World), (∀ pre W1, J pre W1 → Bd pre) → (∀ pre A B r, ow r → J pre A → A.grownBy B (some r) → J pre B) → Below w.heap.size w W → AbidesFrom W.heap.size J → AbidesFrom W.heap.size Jx →
    (∀ pre x W1, J pre W1 → Cx x W1 → YieldAt F (n - 1) P l (encs x) W1 fun e W' =>
      (e = .returned (.bool true) ∧ J (pre ++ [x]) W' ∧ Kp W1 W') ∨ (e = .returned (.bool false) ∧ Jx (pre ++ [x]) W')) →
    J [] W →
    CallsIn F n P g (#[.func (.yield l) #[] #[]] ++ lb) W fun e W' => (∃ v, e = .returned v) ∧ ((∃ xs, S xs ∧ J xs W') ∨ (∃ pre, Sp pre ∧ Jx pre W'))

/-- A record's state in a block, and the block for deferred calls below it, where the loop began at w. -/
def AtRec (w : World) (r : Loop) (W : World) : Prop := W.heap[w.heap.size + 1]? = some (.loop r) ∧ W.heap[w.heap.size]? = some (.deferred (some []))
theorem AtRec.kept {w : World} {r : Loop} {A B : World} {row : Option Nat} (h : AtRec w r A) (hg : A.grownBy B row) (hr : ∀ k, row = some k → ∃ o : Obj, A.heap[k]? = some o ∧ o.isWalk = true) : AtRec w r B :=
  ⟨(grownBy_keeps hg hr h.1 rfl).trans h.1, (grownBy_keeps hg hr h.2 rfl).trans h.2⟩
theorem AtRec.other {w : World} {r : Loop} {A B : World} {q : Nat} (h : AtRec w r A) (hg : A.grownBy B (some q)) (hq : q < w.heap.size) : AtRec w r B :=
  ⟨(hg.block _ (Array.getElem?_eq_some_iff.1 h.1).1 (fun e => by cases e; omega)).trans h.1, (hg.block _ (Array.getElem?_eq_some_iff.1 h.2).1 (fun e => by cases e; omega)).trans h.2⟩
theorem AtRec.from {w : World} {r : Loop} {A B : World} (h : AtRec w r A) (hk : KeepsFrom w.heap.size A B) : AtRec w r B :=
  ⟨hk.same _ _ (by omega) h.1 rfl, hk.same _ _ (Nat.le_refl _) h.2 rfl⟩
theorem AtRec.put {w : World} {r : Loop} {A : World} (h : AtRec w r A) (r' : Loop) : AtRec w r' (A.putObj (w.heap.size + 1) (.loop r')) :=
  ⟨World.putObj_heap_same (Array.getElem?_eq_some_iff.1 h.1).1, (World.putObj_heap_other (by omega)).trans h.2⟩

/-- The law for the caller. -/
theorem wpIn_rangeB {α : Type} {g : Operand} {ps : Array Tmp} {assign body : Code} {Q : Exit → Act → World → Prop} {a : Act} {w : World}
    (hro : F.round = none) (h1 : 1 ≤ n) {gf : Nat} {lb : Array Value} (hg : a.eval g = .func (.func gf) #[] lb) (hFg : F.fn gf) (eg : ∀ args w, (callFunc gf args).run P w = .ok (.enter gf args) w)
    {encs : α → Array Value} {Bd : List α → Prop} {ow : Nat → Prop} {Cx : α → World → Prop} {Kp : World → World → Prop} {S Sp : List α → Prop} {w0 : World} (hseq : GivesB F (n - 1) P gf lb encs Bd ow Cx Kp S Sp w0)
    (hKt : ∀ {A B C : World}, Kp A B → Kp B C → Kp A C) (hKb : ∀ (W : World) (l : Nat) (o o' : Obj), w.heap.size ≤ l → W.heap[l]? = some o → o.isCells = false → o.isWalk = false → Kp W (W.putObj l o')) (hb0 : Below w0.heap.size w0 w) (hps : ∀ x, (encs x).size = ps.size)
    (hCx : ∀ x, OwnFrom w.heap.size (fun (_ : Unit) W => Cx x W))
    (I : List α → World → Prop) (Ix : Code → List α → World → Prop) (hI : OwnFrom w.heap.size I) (hIx : ∀ c, OwnFrom w.heap.size (Ix c)) (hIB : ∀ pre W, I pre W → Bd pre) (how : ∀ r, ow r → r < w.heap.size) (hIw : ∀ pre A B r, ow r → I pre A → A.grownBy B (some r) → I pre B) (h0 : I [] w) (a₁ : α → Act)
    (hassign : ∀ (l : Nat) (x : α) (W : World) (K : Act → World → Prop), K (a₁ x) W →
      assign.wpIn (F.inRound l) (n - 1 - 1) P (Exit.then K (fun _ _ _ => False)) { tmps := (ps.zip (encs x)).foldl (fun t (p, v) => t.setIfInBounds p v) a.tmps, defers := [] } W)
    (hbody : ∀ (l : Nat) (pre : List α) (x : α) (W : World), w.heap.size ≤ l → I pre W → Cx x W → body.wpIn (F.inRound l) (n - 1 - 1) P (ownPostG w.heap.size Kp I Ix (pre ++ [x]) W) (a₁ x) W)
    (hdone : ∀ (D : Nat) (xs : List α) (W : World), w.heap.size ≤ D → S xs → I xs W → W.heap[D]? = some (.deferred (some [])) → D < w.heap.size + 1 → Q .normal { a with defers := { target := .collected D, args := #[] } :: a.defers } W)
    (hstop : ∀ (D : Nat) (c : Code) (pre : List α) (W : World), w.heap.size ≤ D → Sp pre → Ix c pre W → W.heap[D]? = some (.deferred (some [])) → D < w.heap.size + 1 → c.wpIn F n P Q { a with defers := { target := .collected D, args := #[] } :: a.defers } W) :
    (Code.rangeFunc g ps assign body).wpIn F n P Q a w := by
  refine wpIn_rangeFunc fun fn hfn => ?_
  rw [hro]
  obtain ⟨mk, hmk⟩ : ∃ mk : LoopState → Option Code → Loop, mk = fun st pe => { state := st, pending := pe, fn, tmps := a.tmps, params := ps, assign, body, defers := w.heap.size } := ⟨_, rfl⟩
  have hlay : (Instr.enterLoop fn a.tmps ps assign body none).run P w = .ok (w.heap.size + 1, [{ target := .collected w.heap.size, args := #[] }]) ((w.alloc (.deferred (some []))).alloc (.loop (mk .ready none))) := by
    rw [hmk]; exact run_enterLoop_outer _ _ _ _ _
  have hR1 : AtRec w (mk .ready none) ((w.alloc (.deferred (some []))).alloc (.loop (mk .ready none))) := by
    constructor
    · have := World.alloc_heap_new (w.alloc (.deferred (some []))) (.loop (mk .ready none)); rwa [World.size_alloc] at this
    · exact (Below.heap_alloc _ _ _ (by simp)).trans (World.alloc_heap_new w _)
  have hI1 : I [] ((w.alloc (.deferred (some []))).alloc (.loop (mk .ready none))) := hI.alloc _ (hI.alloc _ h0)
  have hb1 : Below w0.heap.size w0 ((w.alloc (.deferred (some []))).alloc (.loop (mk .ready none))) := hb0.trans ((((Below.refl _ w).alloc (Nat.le_refl _) _).alloc (by simp) _).mono hb0.size)
  have hs1 : w.heap.size ≤ ((w.alloc (.deferred (some []))).alloc (.loop (mk .ready none))).heap.size := by simp; omega
  generalize (w.alloc (.deferred (some []))).alloc (.loop (mk .ready none)) = W1 at hlay hR1 hI1 hb1 hs1
  refine ⟨w.heap.size + 1, [{ target := .collected w.heap.size, args := #[] }], W1, { target := .fn (.func gf) lb, args := #[.func (.yield (w.heap.size + 1)) #[] #[]] }, W1, gf, #[.func (.yield (w.heap.size + 1)) #[] #[]] ++ lb, W1, hlay, by simp only [resolve, hg]; simp [go_sem], fun f' hf' => by simp [Target.leads] at hf'; subst hf'; exact hFg, by simp [invoke, go_sem, eg], fun _ => h1, ?_⟩
  have hrow : ∀ {A : World} {row : Option Nat}, (∀ r, row = some r → W1.heap.size ≤ r ∧ ∃ o : Obj, A.heap[r]? = some o ∧ o.isWalk = true) → (∀ r, row = some r → w.heap.size ≤ r ∧ ∃ o : Obj, A.heap[r]? = some o ∧ o.isCells = false) := by
    intro A row hr r e
    obtain ⟨hB, o, ho, hw⟩ := hr r e
    exact ⟨Nat.le_trans hs1 hB, o, ho, Obj.not_cells_of_walk hw⟩
  refine (hseq (w.heap.size + 1) (fun pre W => I pre W ∧ AtRec w (mk .ready none) W) (fun pre W => ∃ c, Ix c pre W ∧ AtRec w (mk .done (some c)) W) W1 (fun pre W h => hIB pre W h.1) (fun pre A B r hr h hg => ⟨hIw pre A B r hr h.1 hg, h.2.other hg (how r hr)⟩) hb1
    (fun s A B row hs hg' hr => ⟨hI s A B row hs.1 hg' (hrow hr), hs.2.kept hg' (fun k e => (hr k e).2)⟩)
    (fun s A B row ⟨c, hc, hl⟩ hg' hr => ⟨c, hIx c s A B row hc hg' (hrow hr), hl.kept hg' (fun k e => (hr k e).2)⟩) ?round ⟨hI1, hR1⟩).mono ?behind
  case round =>
    rintro pre x W ⟨hi, hl⟩ hcx
    have hy := run_yield (P := P) (args := encs x) hl.1 (by rw [hmk]; exact hps x)
    rw [hmk] at hy
    refine ⟨fn, _, assign, body, hy, roundIn_of_wpIn hfn (hassign _ x W _ ?_)⟩
    have hbusy := hl.put { mk .ready none with state := .busy }
    have hput : ∀ {r : Loop} {A : World}, AtRec w r A → ∀ (o' : Obj), Kp A (A.putObj (w.heap.size + 1) o') := fun h o' => hKb _ _ _ _ (by omega) h.1 rfl rfl
    refine ⟨_, run_beginRound hl.1 (by rw [hmk]), wpIn_mono (hbody _ pre x _ (by omega) (hI.putObj _ hi (by omega) hl.1 rfl) ((hCx x).putObj (s := ()) _ hcx (by omega) hl.1 rfl)) ?_⟩
    have leave : ∀ (jump : Option Code) (W3 : World), KeepsFrom w.heap.size (W.putObj (w.heap.size + 1) (.loop { mk .ready none with state := .busy })) W3 →
        AtRec w { mk .ready none with state := .busy } W3 ∧
        (Instr.endRound (w.heap.size + 1) jump).run P W3 = .ok (.bool jump.isNone) (W3.putObj (w.heap.size + 1) (.loop (mk (if jump.isNone then .ready else .done) jump))) ∧
        AtRec w (mk (if jump.isNone then .ready else .done) jump) (W3.putObj (w.heap.size + 1) (.loop (mk (if jump.isNone then .ready else .done) jump))) := by
      intro jump W3 hk3
      have h3 := hbusy.from hk3
      have := run_endRound (P := P) jump h3.1
      rw [hmk] at this ⊢
      exact ⟨by rw [hmk] at h3; exact h3, this, by rw [hmk] at h3; exact h3.put _⟩
    rintro e a3 W3 hp
    cases e with
    | normal =>
      obtain ⟨hk3, hkp3, hi3⟩ := hp
      obtain ⟨h3, hr, hl4⟩ := leave none W3 hk3
      exact ⟨_, _, hr, .inl ⟨rfl, ⟨hI.putObj _ hi3 (by omega) h3.1 rfl, hl4⟩, hKt (hKt (hput hl _) hkp3) (hput h3 _)⟩⟩
    | ret =>
      obtain ⟨hk3, hi3⟩ := hp
      obtain ⟨h3, hr, hl4⟩ := leave (some .ret) W3 hk3
      exact ⟨_, _, hr, .inr ⟨rfl, .ret, (hIx _).putObj _ hi3 (by omega) h3.1 rfl, hl4⟩⟩
    | exit id =>
      obtain ⟨hk3, hi3⟩ := hp
      obtain ⟨h3, hr, hl4⟩ := leave (some (.exit id)) W3 hk3
      exact ⟨_, _, hr, .inr ⟨rfl, .exit id, (hIx _).putObj _ hi3 (by omega) h3.1 rfl, hl4⟩⟩
    | goto t =>
      obtain ⟨hk3, hi3⟩ := hp
      obtain ⟨h3, hr, hl4⟩ := leave (some (.goto t)) W3 hk3
      exact ⟨_, _, hr, .inr ⟨rfl, .goto t, (hIx _).putObj _ hi3 (by omega) h3.1 rfl, hl4⟩⟩
    | panic ch => exact hp.elim
    | outgrown => exact hp.elim
  case behind =>
    have shut : ∀ {st : LoopState} {pe : Option Code} {A : World}, st ≠ .busy → AtRec w (mk st pe) A → (Instr.endLoop (w.heap.size + 1)).run P A = .ok pe (A.putObj (w.heap.size + 1) (.loop { mk st pe with state := .exhausted })) := by
      intro st pe A hst h
      have := run_endLoop (P := P) h.1 (by rw [hmk]; exact hst)
      rw [this, hmk]
    rintro e W2 ⟨⟨v, rfl⟩, (⟨xs, hS, hi, hl⟩ | ⟨pre, hSp, c, hi, hl⟩)⟩
    · exact ⟨none, _, shut (by decide) hl, hdone _ xs _ (Nat.le_refl _) hS (hI.putObj _ hi (by omega) hl.1 rfl) (hl.put _).2 (by omega)⟩
    · exact ⟨some c, _, shut (by decide) hl, hstop _ c pre _ (Nat.le_refl _) hSp ((hIx c).putObj _ hi (by omega) hl.1 rfl) (hl.put _).2 (by omega)⟩


end Go.Proofs.Ytkjojcepombhpaa.L
