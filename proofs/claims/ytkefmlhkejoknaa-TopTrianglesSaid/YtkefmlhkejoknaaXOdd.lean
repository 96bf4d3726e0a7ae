import Derived.Test.YtkefmlhkejoknaaB13
import Derived.Test.YtkefmlhkejoknaaWMore
import Derived.Laws.EntriesVeiled
import Derived.WalkMore
import Derived.Scope
import Derived.Sort.LoopGhostIn

/- The walks of (graph).joined, slices.Index and slices.Contains at ints. -/
namespace Go.Proofs.Ytkefmlhkejoknaa.L
set_option linter.unusedVariables false
set_option linter.unusedSimpArgs false
open Go.RowKit Go.Shelf Go.Proofs.YtkefmlhkejoknaaW.PrintWords Go.Proofs.YtkefmlhkejoknaaW.PrintLast Go.Proofs.YtkefmlhkejoknaaW.PrintMore

section
attribute [local go_sem] max2_int min2_int max_two min_two
set_option maxRecDepth 100000 in
set_option maxHeartbeats 1000000 in
theorem joined_any (n : Int) (ev : Value) (m : Nat) (l : List S49) (a b : Int) (w : World) (hev : ev.oneCell' = true) (hM : MapIs w m l) :
    Calls Try.prog 108 #[gv n ev m, .int .i64 a, .int .i64 b] w fun e w' => e = .returned (.bool (joinedB l a b)) ∧ w.alloc (gbox n ev m) = w' := by
  have M1 := hM.alloc (gbox n ev m)
  obtain ⟨x, hx⟩ := lookup_pair M1 (if b < a then b else a) (if a < b then b else a)
  have hj : hasEdge l (if b < a then b else a) (if a < b then b else a) = joinedB l a b := by
    unfold joinedB
    by_cases h : a ≤ b
    · rw [if_pos h, if_pos h, if_neg (by omega)]
      by_cases h2 : a < b
      · rw [if_pos h2]
      · rw [if_neg h2, show a = b by omega]
    · rw [if_neg h, if_neg h, if_pos (by omega), if_neg (by omega)]
  rw [hj] at hx
  clear hj hM M1
  go_enter Try.func108, Try.ntmps108
  go_wp2
  all_goals (go_ret; exact ⟨rfl, rfl⟩)
end

theorem Bool.beq_comm'' (a b : Int) : (a == b) = (b == a) := by
  by_cases h : a = b
  · subst h; rfl
  · rw [beq_false_of_ne h, beq_false_of_ne (Ne.symm h)]
theorem contains_snoc (xs : List Int) (k : Nat) (hk : k < xs.length) (v : Int) (q : Bool) (hq : (rd xs (k : Int) == v) = q) : (xs.take (k + 1)).contains v = ((xs.take k).contains v || q) := by
  have e : rd xs (k : Int) = xs[k] := by simp [rd, List.getElem?_eq_getElem hk]
  rw [List.take_succ_eq_append_getElem hk, List.contains_append, ← e]
  congr 1
  simp [List.contains, List.elem]
  rw [← hq, Bool.beq_comm'' v]
  cases (rd xs (k : Int) == v) <;> rfl
theorem contains_take (xs : List Int) (k : Nat) (v : Int) (h : (xs.take k).contains v = true) : xs.contains v = true := by
  rw [List.contains_iff_mem] at h ⊢
  exact List.mem_of_mem_take h

set_option maxHeartbeats 1000000 in
theorem indexI_any (A : Option Addr) (c : Nat) (xs : List Int) (v : Int) (w : World) (hl : xs.length ≤ 100) (hC : Kd.C (Kd.int .i64) w A xs.length xs) :
    Calls Try.prog 129 #[.slice A xs.length c, .int .i64 v] w fun e w' => (∃ r : Int, e = .returned (.int .i64 r) ∧ decide (0 ≤ r) = xs.contains v) ∧ w = w' := by
  have HC := Lib.hid hC
  clear hC
  go_enter Try.func129, Try.ntmps129
  go_wp2
  go_loopw [8] (fun i wr => ∃ k : Nat, k ≤ xs.length ∧ i = .int .i64 k ∧ w = wr ∧ Hid ((xs.take k).contains v = false)) (fun i _ => xs.length - (intOf i).toNat)
  case atStart => exact ⟨0, Nat.zero_le _, rfl, rfl, Lib.hid (by simp)⟩
  case round =>
    obtain ⟨k, hk, rfl, rfl, HN⟩ := hrel
    by_cases hlt : k < xs.length
    · obtain ⟨ad, rfl, hx⟩ := Kd.at_int HC.out (k : Int) (by omega) (by omega)
      simp only [Int.toNat_natCast] at hx
      have hsn := fun q (hq : (rd xs (k : Int) == v) = q) => contains_snoc xs k hlt v q hq
      generalize rd xs (k : Int) = y at hx hsn
      have HS := Lib.hid hsn
      clear hsn
      cases hq : (v == y)
      · have HK := Lib.hid (show ((xs.take (k + 1)).contains v) = false from by rw [HS.out false (by rw [← hq]; exact Bool.beq_comm'' y v), HN.out]; rfl)
        go_wp2
        exact ⟨⟨k + 1, by omega, by go_num, trivial, HK⟩, by simp [intOf]; omega⟩
      · have HK := Lib.hid (show xs.contains v = true from contains_take xs (k + 1) v (by rw [HS.out true (by rw [← hq]; exact Bool.beq_comm'' y v)]; simp))
        go_wp2
        exact bodyPost_ret (v := .int .i64 (k : Int)) (by simp [results, Try.results129, go_sem]) rfl ⟨⟨k, rfl, by rw [HK.out]; simp⟩, rfl⟩
    · obtain rfl : k = xs.length := by omega
      have HK := Lib.hid (show xs.contains v = false from by have := HN.out; rwa [List.take_length] at this)
      go_wp2
      exact bodyPost_ret (v := .int .i64 (-1)) (by simp [results, Try.results129, go_sem]) rfl ⟨⟨-1, rfl, by rw [HK.out]; rfl⟩, rfl⟩

set_option maxHeartbeats 1000000 in
theorem containsI_any (A : Option Addr) (c : Nat) (xs : List Int) (v : Int) (w : World) (hl : xs.length ≤ 100) (hC : Kd.C (Kd.int .i64) w A xs.length xs) :
    Calls Try.prog 109 #[.slice A xs.length c, .int .i64 v] w fun e w' => e = .returned (.bool (xs.contains v)) ∧ w = w' := by
  have HI := Lib.hid (indexI_any A c xs v w hl hC)
  clear hC
  generalize xs.contains v = q at HI
  go_enter Try.func109, Try.ntmps109
  go_wp2_with (go_at_call 129; refine HI.out.mono ?_; rintro e w2 ⟨⟨r, rfl, hr⟩, rfl⟩)
  go_ret
  exact ⟨by rw [← hr]; rfl, rfl⟩

end Go.Proofs.Ytkefmlhkejoknaa.L

/- A loop over an iterator whose body may know something of the memory of what it is handed (the iterator's word Cx): the contract, and the law for the caller. -/
namespace Go.Proofs.Ytkefmlhkejoknaa.L
set_option linter.unusedVariables false
set_option linter.unusedSimpArgs false
open Go.RowKit Go.Shelf

variable {F : Fence} {n : Nat} {P : Program}

/-- The iterator hands over values; of each, where it is handed over, Cx holds. -/
def GivesC {α : Type} (F : Fence) (n : Nat) (P : Program) (g : Nat) (lb : Array Value) (encs : α → Array Value) (Cx : α → World → Prop) (Kp : World → World → Prop) (S Sp : List α → Prop) (w : World) : Prop :=
  ∀ (l : Nat) (J Jx : List α → World → Prop) (W : World), Below w.heap.size w W → AbidesFrom W.heap.size J → AbidesFrom W.heap.size Jx →
    (∀ pre x W1, Sp (pre ++ [x]) → J pre W1 → Cx x W1 → YieldAt F (n - 1) P l (encs x) W1 fun e W' =>
      (e = .returned (.bool true) ∧ J (pre ++ [x]) W' ∧ Kp W1 W') ∨ (e = .returned (.bool false) ∧ Jx (pre ++ [x]) W')) →
    J [] W →
    CallsIn F n P g (#[.func (.yield l) #[] #[]] ++ lb) W fun e W' => (∃ v, e = .returned v) ∧ ((∃ xs, S xs ∧ J xs W') ∨ (∃ pre, Sp pre ∧ Jx pre W'))

/-- A record's state in a block, and the block for deferred calls below it, where the loop began at w. -/
def AtRec (w : World) (r : Loop) (W : World) : Prop := W.heap[w.heap.size + 1]? = some (.loop r) ∧ W.heap[w.heap.size]? = some (.deferred (some []))
theorem AtRec.kept {w : World} {r : Loop} {A B : World} {row : Option Nat} (h : AtRec w r A) (hg : A.grownBy B row) (hr : ∀ k, row = some k → ∃ o : Obj, A.heap[k]? = some o ∧ o.isWalk = true) : AtRec w r B :=
  ⟨(grownBy_keeps hg hr h.1 rfl).trans h.1, (grownBy_keeps hg hr h.2 rfl).trans h.2⟩
theorem AtRec.from {w : World} {r : Loop} {A B : World} (h : AtRec w r A) (hk : KeepsFrom w.heap.size A B) : AtRec w r B :=
  ⟨hk.same _ _ (by omega) h.1 rfl, hk.same _ _ (Nat.le_refl _) h.2 rfl⟩
theorem AtRec.put {w : World} {r : Loop} {A : World} (h : AtRec w r A) (r' : Loop) : AtRec w r' (A.putObj (w.heap.size + 1) (.loop r')) :=
  ⟨World.putObj_heap_same (Array.getElem?_eq_some_iff.1 h.1).1, (World.putObj_heap_other (by omega)).trans h.2⟩

/-- The law for the caller. -/
theorem wpIn_rangeC {α : Type} {g : Operand} {ps : Array Tmp} {assign body : Code} {Q : Exit → Act → World → Prop} {a : Act} {w : World}
    (hro : F.round = none) (h1 : 1 ≤ n) {gf : Nat} {lb : Array Value} (hg : a.eval g = .func (.func gf) #[] lb) (hFg : F.fn gf) (eg : ∀ args w, (callFunc gf args).run P w = .ok (.enter gf args) w)
    {encs : α → Array Value} {Cx : α → World → Prop} {Kp : World → World → Prop} {S Sp : List α → Prop} {w0 : World} (hseq : GivesC F (n - 1) P gf lb encs Cx Kp S Sp w0)
    (hKt : ∀ {A B C : World}, Kp A B → Kp B C → Kp A C) (hKb : ∀ (W : World) (l : Nat) (o o' : Obj), w.heap.size ≤ l → W.heap[l]? = some o → o.isCells = false → o.isWalk = false → Kp W (W.putObj l o')) (hb0 : Below w0.heap.size w0 w) (hps : ∀ x, (encs x).size = ps.size)
    (hCx : ∀ x, OwnFrom w.heap.size (fun (_ : Unit) W => Cx x W))
    (I : List α → World → Prop) (Ix : Code → List α → World → Prop) (hI : OwnFrom w.heap.size I) (hIx : ∀ c, OwnFrom w.heap.size (Ix c)) (h0 : I [] w) (a₁ : α → Act)
    (hassign : ∀ (l : Nat) (x : α) (W : World) (K : Act → World → Prop), K (a₁ x) W →
      assign.wpIn (F.inRound l) (n - 1 - 1) P (Exit.then K (fun _ _ _ => False)) { tmps := (ps.zip (encs x)).foldl (fun t (p, v) => t.setIfInBounds p v) a.tmps, defers := [] } W)
    (hbody : ∀ (l : Nat) (pre : List α) (x : α) (W : World), w.heap.size ≤ l → Sp (pre ++ [x]) → I pre W → Cx x W → body.wpIn (F.inRound l) (n - 1 - 1) P (ownPostG w.heap.size Kp I Ix (pre ++ [x]) W) (a₁ x) W)
    (hdone : ∀ (D : Nat) (xs : List α) (W : World), w.heap.size ≤ D → S xs → I xs W → W.heap[D]? = some (.deferred (some [])) → D < w.heap.size + 1 → Q .normal { a with defers := { target := .collected D, args := #[] } :: a.defers } W)
    (hstop : ∀ (D : Nat) (c : Code) (pre : List α) (W : World), w.heap.size ≤ D → Sp pre → Ix c pre W → W.heap[D]? = some (.deferred (some [])) → D < w.heap.size + 1 → c.wpIn F n P Q { a with defers := { target := .collected D, args := #[] } :: a.defers } W) :
    (Code.rangeFunc g ps assign body).wpIn F n P Q a w := by
  refine wpIn_rangeFunc fun fn hfn => ?_
  rw [hro]
  obtain ⟨mk, hmk⟩ : ∃ mk : LoopState → Option Code → Loop, mk = fun st pe => { state := st, pending := pe, fn, tmps := a.tmps, params := ps, assign, body, defers := w.heap.size } := ⟨_, rfl⟩
  have hlay : (Instr.enterLoop fn a.tmps ps assign body none).run P w = .ok (w.heap.size + 1, [{ target := .collected w.heap.size, args := #[] }]) ((w.alloc (.deferred (some []))).alloc (.loop (mk .ready none))) := by
    rw [hmk]; exact run_enterLoop_outer _ _ _ _ _
  have hR1 : AtRec w (mk .ready none) ((w.alloc (.deferred (some []))).alloc (.loop (mk .ready none))) := by
    constructor
    · have := World.alloc_heap_new (w.alloc (.deferred (some []))) (.loop (mk .ready none)); rwa [World.size_alloc] at this
    · exact (Below.heap_alloc _ _ _ (by simp)).trans (World.alloc_heap_new w _)
  have hI1 : I [] ((w.alloc (.deferred (some []))).alloc (.loop (mk .ready none))) := hI.alloc _ (hI.alloc _ h0)
  have hb1 : Below w0.heap.size w0 ((w.alloc (.deferred (some []))).alloc (.loop (mk .ready none))) := hb0.trans ((((Below.refl _ w).alloc (Nat.le_refl _) _).alloc (by simp) _).mono hb0.size)
  have hs1 : w.heap.size ≤ ((w.alloc (.deferred (some []))).alloc (.loop (mk .ready none))).heap.size := by simp; omega
  generalize (w.alloc (.deferred (some []))).alloc (.loop (mk .ready none)) = W1 at hlay hR1 hI1 hb1 hs1
  refine ⟨w.heap.size + 1, [{ target := .collected w.heap.size, args := #[] }], W1, { target := .fn (.func gf) lb, args := #[.func (.yield (w.heap.size + 1)) #[] #[]] }, W1, gf, #[.func (.yield (w.heap.size + 1)) #[] #[]] ++ lb, W1, hlay, by simp only [resolve, hg]; simp [go_sem], fun f' hf' => by simp [Target.leads] at hf'; subst hf'; exact hFg, by simp [invoke, go_sem, eg], fun _ => h1, ?_⟩
  have hrow : ∀ {A : World} {row : Option Nat}, (∀ r, row = some r → W1.heap.size ≤ r ∧ ∃ o : Obj, A.heap[r]? = some o ∧ o.isWalk = true) → (∀ r, row = some r → w.heap.size ≤ r ∧ ∃ o : Obj, A.heap[r]? = some o ∧ o.isCells = false) := by
    intro A row hr r e
    obtain ⟨hB, o, ho, hw⟩ := hr r e
    exact ⟨Nat.le_trans hs1 hB, o, ho, Obj.not_cells_of_walk hw⟩
  refine (hseq (w.heap.size + 1) (fun pre W => I pre W ∧ AtRec w (mk .ready none) W) (fun pre W => ∃ c, Ix c pre W ∧ AtRec w (mk .done (some c)) W) W1 hb1
    (fun s A B row hs hg' hr => ⟨hI s A B row hs.1 hg' (hrow hr), hs.2.kept hg' (fun k e => (hr k e).2)⟩)
    (fun s A B row ⟨c, hc, hl⟩ hg' hr => ⟨c, hIx c s A B row hc hg' (hrow hr), hl.kept hg' (fun k e => (hr k e).2)⟩) ?round ⟨hI1, hR1⟩).mono ?behind
  case round =>
    rintro pre x W hsp ⟨hi, hl⟩ hcx
    have hy := run_yield (P := P) (args := encs x) hl.1 (by rw [hmk]; exact hps x)
    rw [hmk] at hy
    refine ⟨fn, _, assign, body, hy, roundIn_of_wpIn hfn (hassign _ x W _ ?_)⟩
    have hbusy := hl.put { mk .ready none with state := .busy }
    have hput : ∀ {r : Loop} {A : World}, AtRec w r A → ∀ (o' : Obj), Kp A (A.putObj (w.heap.size + 1) o') := fun h o' => hKb _ _ _ _ (by omega) h.1 rfl rfl
    refine ⟨_, run_beginRound hl.1 (by rw [hmk]), wpIn_mono (hbody _ pre x _ (by omega) hsp (hI.putObj _ hi (by omega) hl.1 rfl) ((hCx x).putObj (s := ()) _ hcx (by omega) hl.1 rfl)) ?_⟩
    have leave : ∀ (jump : Option Code) (W3 : World), KeepsFrom w.heap.size (W.putObj (w.heap.size + 1) (.loop { mk .ready none with state := .busy })) W3 →
        AtRec w { mk .ready none with state := .busy } W3 ∧
        (Instr.endRound (w.heap.size + 1) jump).run P W3 = .ok (.bool jump.isNone) (W3.putObj (w.heap.size + 1) (.loop (mk (if jump.isNone then .ready else .done) jump))) ∧
        AtRec w (mk (if jump.isNone then .ready else .done) jump) (W3.putObj (w.heap.size + 1) (.loop (mk (if jump.isNone then .ready else .done) jump))) := by
      intro jump W3 hk3
      have h3 := hbusy.from hk3
      have := run_endRound (P := P) jump h3.1
      rw [hmk] at this ⊢
      exact ⟨by rw [hmk] at h3; exact h3, this, by rw [hmk] at h3; exact h3.put _⟩
    rintro e a3 W3 hp
    cases e with
    | normal =>
      obtain ⟨hk3, hkp3, hi3⟩ := hp
      obtain ⟨h3, hr, hl4⟩ := leave none W3 hk3
      exact ⟨_, _, hr, .inl ⟨rfl, ⟨hI.putObj _ hi3 (by omega) h3.1 rfl, hl4⟩, hKt (hKt (hput hl _) hkp3) (hput h3 _)⟩⟩
    | ret =>
      obtain ⟨hk3, hi3⟩ := hp
      obtain ⟨h3, hr, hl4⟩ := leave (some .ret) W3 hk3
      exact ⟨_, _, hr, .inr ⟨rfl, .ret, (hIx _).putObj _ hi3 (by omega) h3.1 rfl, hl4⟩⟩
    | exit id =>
      obtain ⟨hk3, hi3⟩ := hp
      obtain ⟨h3, hr, hl4⟩ := leave (some (.exit id)) W3 hk3
      exact ⟨_, _, hr, .inr ⟨rfl, .exit id, (hIx _).putObj _ hi3 (by omega) h3.1 rfl, hl4⟩⟩
    | goto t =>
      obtain ⟨hk3, hi3⟩ := hp
      obtain ⟨h3, hr, hl4⟩ := leave (some (.goto t)) W3 hk3
      exact ⟨_, _, hr, .inr ⟨rfl, .goto t, (hIx _).putObj _ hi3 (by omega) h3.1 rfl, hl4⟩⟩
    | panic ch => exact hp.elim
    | outgrown => exact hp.elim
  case behind =>
    have shut : ∀ {st : LoopState} {pe : Option Code} {A : World}, st ≠ .busy → AtRec w (mk st pe) A → (Instr.endLoop (w.heap.size + 1)).run P A = .ok pe (A.putObj (w.heap.size + 1) (.loop { mk st pe with state := .exhausted })) := by
      intro st pe A hst h
      have := run_endLoop (P := P) h.1 (by rw [hmk]; exact hst)
      rw [this, hmk]
    rintro e W2 ⟨⟨v, rfl⟩, (⟨xs, hS, hi, hl⟩ | ⟨pre, hSp, c, hi, hl⟩)⟩
    · exact ⟨none, _, shut (by decide) hl, hdone _ xs _ (Nat.le_refl _) hS (hI.putObj _ hi (by omega) hl.1 rfl) (hl.put _).2 (by omega)⟩
    · exact ⟨some c, _, shut (by decide) hl, hstop _ c pre _ (Nat.le_refl _) hSp ((hIx c).putObj _ hi (by omega) hl.1 rfl) (hl.put _).2 (by omega)⟩

end Go.Proofs.Ytkefmlhkejoknaa.L

/- The iterator (graph).cycles: extend, which calls itself. -/
namespace Go.Proofs.Ytkefmlhkejoknaa.L
set_option linter.unusedVariables false
set_option linter.unusedSimpArgs false
open Go.RowKit Go.Shelf Go.Proofs.YtkefmlhkejoknaaW.PrintWords Go.Proofs.YtkefmlhkejoknaaW.PrintLast
attribute [local go_sem] Oper.semAt_some

/-- A slice that is handed over, and its numbers. -/
abbrev ACyc := Value × List Int
/-- A block of rows. -/
def isRows : Obj → Bool
  | .cells _ t _ => t == 39
  | _ => false
/-- What a round keeps: two boxes, a map, and all cells from B on but those of rows. -/
def KpC (b1 b2 m B : Nat) (W W' : World) : Prop := W.heap.size ≤ W'.heap.size ∧ ∀ k o, W.heap[k]? = some o → (k = b1 ∨ k = b2 ∨ k = m ∨ (B ≤ k ∧ o.isCells = true ∧ isRows o = false)) → W'.heap[k]? = some o
theorem KpC_t {b1 b2 m B : Nat} {A C D : World} (h : KpC b1 b2 m B A C) (k : KpC b1 b2 m B C D) : KpC b1 b2 m B A D := ⟨Nat.le_trans h.1 k.1, fun j o ho hj => k.2 j o (h.2 j o ho hj) hj⟩
theorem KpC_below {b1 b2 m B : Nat} {W W' : World} (h : Below W.heap.size W W') : KpC b1 b2 m B W W' := ⟨h.size, fun k o ho _ => (h.block k (Array.getElem?_eq_some_iff.1 ho).1).trans ho⟩
theorem KpC.whole {b1 b2 m B : Nat} {W W' : World} (h : KpC b1 b2 m B W W') {g : Nat} {t : TypeId} {cs : Array Value} (hg : g = b1 ∨ g = b2 ∨ (B ≤ g ∧ (t == 39) = false)) (hw : Whole W g t cs) : Whole W' g t cs :=
  h.2 g _ hw (by rcases hg with h | h | ⟨h, h'⟩ <;> simp_all [Obj.isCells, isRows])
theorem KpC.map {b1 b2 m B : Nat} {W W' : World} (h : KpC b1 b2 m B W W') {l : List S49} (hw : MapIs W m l) : MapIs W' m l := h.2 m _ hw (by simp)
/-- The numbers of a slice, from B on. -/
def CyC (B : Nat) (x : ACyc) (W : World) : Prop := Kd.R (Kd.int .i64) 3 W B (fun _ => True) x.1 x.2
theorem CyC.step {B : Nat} {x : ACyc} {W W' : World} (h : CyC B x W) (hm : ∀ k o, W.heap[k]? = some o → B ≤ k → o.isCells = true → isRows o = false → W'.heap[k]? = some o) : CyC B x W' := by
  refine Kd.R_mono (Kd.R_move (Kd.R_bound h) (fun k hk => ?_)) (fun _ hk => hk.1)
  obtain ⟨_, hB, _, q, hq, cells, hc⟩ := hk
  obtain rfl : q = 3 := by simpa [Kd.int, Kd.scalar] using hq
  rw [hc, hm k _ hc hB rfl rfl]
theorem CyC.kept {b1 b2 m B : Nat} {x : ACyc} {W W' : World} (h : CyC B x W) (hk : KpC b1 b2 m B W W') : CyC B x W' := h.step (fun k o ho hB hc hc' => hk.2 k o ho (by simp [hB, hc, hc']))
theorem CyC.form {B : Nat} {v : Value} {xs : List Int} {W : World} (h : CyC B (v, xs) W) (hne : xs ≠ []) :
    ∃ g cap : Nat, v = .slice (some ⟨g, 0, none⟩) xs.length cap ∧ xs.length ≤ cap ∧ B ≤ g ∧ g < W.heap.size ∧ Kd.C (Kd.int .i64) W (some ⟨g, 0, none⟩) xs.length xs ∧ ∀ i : Nat, i < xs.length → W.cell? ⟨g, i, none⟩ = some (.int .i64 (rd xs (i : Int))) := by
  obtain ⟨A, c, hv, hc, hr⟩ := Kd.R_reads h
  obtain ⟨inner, ho⟩ := Kd.R_own h
  dsimp only at hv hc hr ho
  rcases ho.2 with ho | ⟨g, cap, cur, hv', hg, hh, r⟩
  · exfalso
    rw [ho.1] at hv
    injection hv with _ e _
    cases xs with
    | nil => exact hne rfl
    | cons a l => simp at e
  · rw [hv] at hv'
    injection hv' with e1 e2 e3
    subst e1
    refine ⟨g, c, hv, hc, hg, (Array.getElem?_eq_some_iff.1 hh).1, hr, fun i hi => ?_⟩
    obtain ⟨ad, e, hx⟩ := Kd.at_int hr (i : Int) (by omega) (by omega)
    cases e
    rw [Int.toNat_natCast] at hx
    by_cases h0 : i = 0
    · subst h0; simpa [Addr.add] using hx
    · have e2 : (({ block := g, off := 0 } : Addr).add i) = ⟨g, i, none⟩ := by simp [Addr.add, h0]
      rw [e2] at hx; exact hx
theorem CyC_own (B B' : Nat) (x : ACyc) : OwnFrom B' (fun (_ : Unit) W => CyC B x W) := by
  intro s X Y row h hg hr
  refine CyC.step h (fun k o ho hB hc _ => (hg.block k (Array.getElem?_eq_some_iff.1 ho).1 (fun e => ?_)).trans ho)
  obtain ⟨_, o', ho', hc'⟩ := hr k e.symm
  rw [ho] at ho'; cases ho'; rw [hc] at hc'; cases hc'

/-- What the iterator's own functions find in memory. -/
def CycEnv (n : Int) (A : Option Addr) (c m : Nat) (l : List S49) (size : Nat) (lp b1 b2 b3 b4 : Nat) (W : World) : Prop :=
  Whole W b1 3 #[.int .i64 (size : Int)] ∧ Whole W b2 86 #[.int .i64 n, .slice A l.length c, .map (some m)] ∧ Whole W b3 118 #[.func (.yield lp) #[] #[]] ∧
  Whole W b4 118 #[.func (.func 107) #[] #[.pointer (some ⟨b1, 0, none⟩), .pointer (some ⟨b2, 0, none⟩), .pointer (some ⟨b3, 0, none⟩), .pointer (some ⟨b4, 0, none⟩)]] ∧ MapIs W m l
theorem CycEnv.kept {n : Int} {A : Option Addr} {c m : Nat} {l : List S49} {size lp b1 b2 b3 b4 B : Nat} {W W' : World} (h : CycEnv n A c m l size lp b1 b2 b3 b4 W) (hk : KpC b1 b2 m B W W') (h3 : B ≤ b3) (h4 : B ≤ b4) : CycEnv n A c m l size lp b1 b2 b3 b4 W' :=
  ⟨hk.whole (.inl rfl) h.1, hk.whole (.inr (.inl rfl)) h.2.1, hk.whole (.inr (.inr ⟨h3, rfl⟩)) h.2.2.1, hk.whole (.inr (.inr ⟨h4, rfl⟩)) h.2.2.2.1, hk.map h.2.2.2.2⟩

/-- What extend comes to. -/
def ExtPost (b1 b2 m B : Nat) (J Jx : List ACyc → World → Prop) (pre : List ACyc) (cs : List (List Int)) (W : World) (e : Ending) (W' : World) : Prop :=
  (e = .returned (.bool true) ∧ ∃ ys : List ACyc, ys.map (·.2) = cs ∧ J (pre ++ ys) W' ∧ KpC b1 b2 m B W W') ∨
  (e = .returned (.bool false) ∧ ∃ ys : List ACyc, ys ≠ [] ∧ ys.map (·.2) <+: cs ∧ Jx (pre ++ ys) W')

/-- An operation taken first, the frame written out anew. -/
theorem takeE {F : Fence} {n : Nat} {P : Program} {ops : Array Oper} {Q : Exit → Act → World → Prop} {md : Region.Mode} {i : Nat} {oi : Oper} {v : Value} {fuel : Nat} {listed : Array Bool} {a a' : Act} {w : World} (hro : F.round = none) (hi : ops[i]? = some oi)
    (hs : Region.noSelect ops = true) (hf : Region.free md ops listed i = true) (hr : (Region.ready md ops listed).contains i = true)
    (hQ : ∀ c a w, Q (.panic c) (a.put oi.dst v) w → Q (.panic c) a w) (hy : YieldsFenced P ops oi v a) (ha : a.put oi.dst v = a')
    (h : wpAnyIn F n P md ops Q fuel (listed.setIfInBounds i true) a' w) : wpAnyIn F n P md ops Q (fuel + 1) listed a w := by
  subst ha
  exact wpAnyIn_take hro hi hs hf hr hQ hy h
theorem cyc0_of (n : Int) (l : List S49) (size : Nat) (xs : List Int) (x0 x1 xl : Int) (hxs : xs.length = size) (hsz : 3 ≤ size) (h0 : rd xs ((0 : Nat) : Int) = x0) (h1 : rd xs ((1 : Nat) : Int) = x1) (hl : rd xs ((size - 1 : Nat) : Int) = xl) :
    cycB n l size 0 xs = if decide (xl < x1) || !joinedB l x0 xl then [] else [xs] := by
  have e0 : xs.headD 0 = x0 := by rw [← h0]; cases xs <;> simp [rd]
  have e1 : xs.getD 1 0 = x1 := by rw [← h1]; simp [rd]
  have el : xs.getLastD 0 = xl := by
    rw [← hl, rd, Int.toNat_natCast, ← hxs]
    cases xs with
    | nil => simp at hxs; omega
    | cons a l => simp [List.getLastD, List.getLast_eq_getElem]
  rw [cycB, e0, e1, el]

end Go.Proofs.Ytkefmlhkejoknaa.L

/- The iterator (graph).cycles: extend at its full length, the second number above the last one. -/
namespace Go.Proofs.Ytkefmlhkejoknaa.L
set_option linter.unusedVariables false
set_option linter.unusedSimpArgs false
open Go.RowKit Go.Shelf Go.Proofs.YtkefmlhkejoknaaW.PrintWords Go.Proofs.YtkefmlhkejoknaaW.PrintLast
attribute [local go_sem] Oper.semAt_some

set_option maxRecDepth 100000 in
set_option maxHeartbeats 4000000 in
theorem extend_gt (n : Int) (A : Option Addr) (c m : Nat) (l : List S49) (size lp b1 b2 b3 b4 B : Nat) (J Jx : List ACyc → World → Prop) (d : Nat) (pre : List ACyc) (v : Value) (xs : List Int) (W : World)
    (h3 : B ≤ b3) (h4 : B ≤ b4) (hsz : 3 ≤ size) (hsz2 : size ≤ 12) (hxs : xs.length = size) (hE : CycEnv n A c m l size lp b1 b2 b3 b4 W) (hR : CyC B (v, xs) W) (hBW : B ≤ W.heap.size) (hA : ∀ s W W', J s W → W.grownBy W' none → J s W')
    (hJ : J pre W) (hgt : rd xs ((size - 1 : Nat) : Int) < rd xs ((1 : Nat) : Int)) :
    CallsIn Fence.wide d Try.prog 107 #[v, .pointer (some ⟨b1, 0, none⟩), .pointer (some ⟨b2, 0, none⟩), .pointer (some ⟨b3, 0, none⟩), .pointer (some ⟨b4, 0, none⟩)] W (ExtPost b1 b2 m B J Jx pre [] W) := by
  obtain ⟨g, cv, hv, hcv, hgB, hgl, hreads, hcells⟩ := hR.form (by intro e; rw [e] at hxs; simp at hxs; omega)
  subst hv
  have hl1 := hcells (size - 1) (by omega)
  have hl0 := hcells 0 (by omega)
  have hl2 := hcells 1 (by omega)
  clear hcells
  have E1 := hE.1.cell 0
  have E2 := hE.2.1.cell 0
  have E21 := hE.2.1.cell 1
  have E22 := hE.2.1.cell 2
  have E3 := hE.2.2.1.cell 0
  simp only [List.getElem?_toArray, List.getElem?_cons_zero, List.getElem?_cons_succ] at E1 E2 E21 E22 E3
  obtain ⟨x0, hx0⟩ : ∃ x0, rd xs ((0 : Nat) : Int) = x0 := ⟨_, rfl⟩
  obtain ⟨x1, hx1⟩ : ∃ x1, rd xs ((1 : Nat) : Int) = x1 := ⟨_, rfl⟩
  obtain ⟨xl, hxl⟩ : ∃ xl, rd xs ((size - 1 : Nat) : Int) = xl := ⟨_, rfl⟩
  rw [hx0] at hl0
  rw [hx1] at hl2
  rw [hxl] at hl1
  rw [hxs]
  refine callsIn_of_wp Try.func107 rfl trivial ?_ rfl
  simp only [Try.ntmps107, List.size_toArray, List.length_cons, List.length_nil, Nat.reduceAdd, Nat.reduceSub, Array.replicate_succ, Array.replicate_zero, List.push_toArray, List.append_toArray, List.nil_append, List.cons_append]
  have hmx : Try.prog.follows .mixedOrders = true := by kernel_rfl
  have HE := Lib.hid hE
  have HM := Lib.hid hE.2.2.2.2
  have hlt2 := hE.2.1.lt
  have hlt3 := hE.2.2.1.lt
  have HR := Lib.hid hR
  have HJ := Lib.hid hJ
  have HA := Lib.hid hA
  have HRD := Lib.hid hreads
  have HX0 := Lib.hid hx0
  have HX1 := Lib.hid hx1
  have HXL := Lib.hid hxl
  rw [hx1, hxl] at hgt
  clear hE hR hJ hA hreads hx0 hx1 hxl
  have hd : decide (xl < x1) = true := decide_eq_true hgt
  gi_wp2
  refine wpIn_region_any (by assumption) ?_
  change wpAnyIn _ _ _ _ _ _ _ _ _ (World.drew _)
  refine takeE (i := 0) (v := ?v1) (a' := ?b1) rfl rfl (by kernel_rfl) (by kernel_rfl) (by kernel_rfl) (fun _ _ _ h => h) ⟨Or.inl ⟨by rfl, ?hy1⟩, fun _ => rfl⟩ ?ha1 ?_
  case hy1 => (intro w; go_simp; try first | with_reducible rfl | omega)
  case ha1 => (go_simp; try with_reducible rfl)
  refine takeE (i := 3) (v := ?v2) (a' := ?b2) rfl rfl (by kernel_rfl) (by kernel_rfl) (by kernel_rfl) (fun _ _ _ h => h) ⟨Or.inl ⟨by rfl, ?hy2⟩, fun _ => rfl⟩ ?ha2 ?_
  case hy2 => (intro w; go_simp; try first | with_reducible rfl | omega)
  case ha2 => (go_simp; try with_reducible rfl)
  refine wpAnyIn_ready (rs := [1]) (by kernel_rfl) (by simp) ?_
  refine AllReadyIn.cons rfl (fun K hK => ?_) AllReadyIn.nil
  go_simp
  gi_wp2
  refine wpAnyIn_ready (rs := [2]) (by kernel_rfl) (by simp) ?_
  refine AllReadyIn.cons rfl (fun K hK => ?_) AllReadyIn.nil
  go_simp
  refine hK _ _ ?_
  clear hK K
  refine takeE (i := 4) (v := ?v3) (a' := ?b3) rfl rfl (by kernel_rfl) (by kernel_rfl) (by kernel_rfl) (fun _ _ _ h => h) ⟨Or.inl ⟨by rfl, ?hy3⟩, fun _ => rfl⟩ ?ha3 ?_
  case hy3 => (intro w; go_simp; try first | with_reducible rfl | omega)
  case ha3 => (go_simp; try with_reducible rfl)
  refine takeE (i := 5) (v := ?v4) (a' := ?b4) rfl rfl (by kernel_rfl) (by kernel_rfl) (by kernel_rfl) (fun _ _ _ h => h) ⟨Or.inl ⟨by rfl, ?hy4⟩, fun _ => rfl⟩ ?ha4 ?_
  case hy4 => (intro w; go_simp; try first | with_reducible rfl | omega)
  case ha4 => (go_simp; try with_reducible rfl)
  refine takeE (i := 6) (v := undef) (a' := ?b5) rfl rfl (by kernel_rfl) (by kernel_rfl) (by kernel_rfl) (fun _ _ _ h => h) ⟨Or.inr ⟨by rfl, rfl⟩, fun _ => rfl⟩ ?ha5 ?_
  case ha5 => (go_simp; try with_reducible rfl)
  refine takeE (i := 7) (v := undef) (a' := ?b6) rfl rfl (by kernel_rfl) (by kernel_rfl) (by kernel_rfl) (fun _ _ _ h => h) ⟨Or.inr ⟨by rfl, rfl⟩, fun _ => rfl⟩ ?ha6 ?_
  case ha6 => (go_simp; try with_reducible rfl)
  refine takeE (i := 8) (v := undef) (a' := ?b7) rfl rfl (by kernel_rfl) (by kernel_rfl) (by kernel_rfl) (fun _ _ _ h => h) ⟨Or.inr ⟨by rfl, rfl⟩, fun _ => rfl⟩ ?ha7 ?_
  case ha7 => (go_simp; try with_reducible rfl)
  refine takeE (i := 9) (v := undef) (a' := ?b8) rfl rfl (by kernel_rfl) (by kernel_rfl) (by kernel_rfl) (fun _ _ _ h => h) ⟨Or.inr ⟨by rfl, rfl⟩, fun _ => rfl⟩ ?ha8 ?_
  case ha8 => (go_simp; try with_reducible rfl)
  refine takeE (i := 10) (v := undef) (a' := ?b9) rfl rfl (by kernel_rfl) (by kernel_rfl) (by kernel_rfl) (fun _ _ _ h => h) ⟨Or.inr ⟨by rfl, rfl⟩, fun _ => rfl⟩ ?ha9 ?_
  case ha9 => (go_simp; try with_reducible rfl)
  refine wpAnyIn_ready (rs := [11]) (by kernel_rfl) (by simp) ?_
  refine AllReadyIn.cons rfl (fun K hK => ?_) AllReadyIn.nil
  go_simp
  refine ⟨trivial, ?_⟩
  refine hK _ _ ?_
  clear hK K
  refine takeE (i := 12) (v := undef) (a' := ?b10) rfl rfl (by kernel_rfl) (by kernel_rfl) (by kernel_rfl) (fun _ _ _ h => h) ⟨Or.inr ⟨by rfl, rfl⟩, fun _ => rfl⟩ ?ha10 ?_
  case ha10 => (go_simp; try with_reducible rfl)
  refine takeE (i := 13) (v := ?v11) (a' := ?b11) rfl rfl (by kernel_rfl) (by kernel_rfl) (by kernel_rfl) (fun _ _ _ h => h) ⟨Or.inl ⟨by rfl, ?hy11⟩, fun _ => rfl⟩ ?ha11 ?_
  case hy11 => (intro w; go_simp; try first | with_reducible rfl | omega)
  case ha11 => (go_simp; try with_reducible rfl)
  refine takeE (i := 14) (v := ?v12) (a' := ?b12) rfl rfl (by kernel_rfl) (by kernel_rfl) (by kernel_rfl) (fun _ _ _ h => h) ⟨Or.inl ⟨by rfl, ?hy12⟩, fun _ => rfl⟩ ?ha12 ?_
  case hy12 => (intro w; go_simp; try first | with_reducible rfl | omega)
  case ha12 => (go_simp; try with_reducible rfl)
  refine takeE (i := 15) (v := undef) (a' := ?b13) rfl rfl (by kernel_rfl) (by kernel_rfl) (by kernel_rfl) (fun _ _ _ h => h) ⟨Or.inr ⟨by rfl, rfl⟩, fun _ => rfl⟩ ?ha13 ?_
  case ha13 => (go_simp; try with_reducible rfl)
  refine takeE (i := 16) (v := undef) (a' := ?b14) rfl rfl (by kernel_rfl) (by kernel_rfl) (by kernel_rfl) (fun _ _ _ h => h) ⟨Or.inr ⟨by rfl, rfl⟩, fun _ => rfl⟩ ?ha14 ?_
  case ha14 => (go_simp; try with_reducible rfl)
  refine takeE (i := 17) (v := undef) (a' := ?b15) rfl rfl (by kernel_rfl) (by kernel_rfl) (by kernel_rfl) (fun _ _ _ h => h) ⟨Or.inr ⟨by rfl, rfl⟩, fun _ => rfl⟩ ?ha15 ?_
  case ha15 => (go_simp; try with_reducible rfl)
  refine takeE (i := 18) (v := ?v16) (a' := ?b16) rfl rfl (by kernel_rfl) (by kernel_rfl) (by kernel_rfl) (fun _ _ _ h => h) ⟨Or.inl ⟨by rfl, ?hy16⟩, fun _ => rfl⟩ ?ha16 ?_
  case hy16 => (intro w; go_simp; try first | with_reducible rfl | omega)
  case ha16 => (go_simp; try with_reducible rfl)
  refine takeE (i := 19) (v := ?v17) (a' := ?b17) rfl rfl (by kernel_rfl) (by kernel_rfl) (by kernel_rfl) (fun _ _ _ h => h) ⟨Or.inl ⟨by rfl, ?hy17⟩, fun _ => rfl⟩ ?ha17 ?_
  case hy17 => (intro w; go_simp; try first | with_reducible rfl | omega)
  case ha17 => (go_simp; try with_reducible rfl)
  refine wpAnyIn_done (by kernel_rfl) ?_ _
  gi_wp2
  go_ret
  have hb : Below W.heap.size W W.drew := (Below.refl _ _).drew
  refine .inl ⟨rfl, [], rfl, ?_, KpC_below hb⟩
  rw [List.append_nil]
  exact HA.out _ _ _ HJ.out (grown_of_below hb none)

end Go.Proofs.Ytkefmlhkejoknaa.L

/- The iterator (graph).cycles: extend at its full length, its ends not joined. -/
namespace Go.Proofs.Ytkefmlhkejoknaa.L
set_option linter.unusedVariables false
set_option linter.unusedSimpArgs false
open Go.RowKit Go.Shelf Go.Proofs.YtkefmlhkejoknaaW.PrintWords Go.Proofs.YtkefmlhkejoknaaW.PrintLast
attribute [local go_sem] Oper.semAt_some

set_option maxRecDepth 100000 in
set_option maxHeartbeats 4000000 in
theorem extend_no (n : Int) (A : Option Addr) (c m : Nat) (l : List S49) (size lp b1 b2 b3 b4 B : Nat) (J Jx : List ACyc → World → Prop) (d : Nat) (pre : List ACyc) (v : Value) (xs : List Int) (W : World)
    (h3 : B ≤ b3) (h4 : B ≤ b4) (hsz : 3 ≤ size) (hsz2 : size ≤ 12) (hxs : xs.length = size) (hE : CycEnv n A c m l size lp b1 b2 b3 b4 W) (hR : CyC B (v, xs) W) (hBW : B ≤ W.heap.size) (hA : ∀ s W W', J s W → W.grownBy W' none → J s W')
    (hJ : J pre W) (hgt : ¬ rd xs ((size - 1 : Nat) : Int) < rd xs ((1 : Nat) : Int)) (hj : joinedB l (rd xs ((0 : Nat) : Int)) (rd xs ((size - 1 : Nat) : Int)) = false) :
    CallsIn Fence.wide d Try.prog 107 #[v, .pointer (some ⟨b1, 0, none⟩), .pointer (some ⟨b2, 0, none⟩), .pointer (some ⟨b3, 0, none⟩), .pointer (some ⟨b4, 0, none⟩)] W (ExtPost b1 b2 m B J Jx pre [] W) := by
  obtain ⟨g, cv, hv, hcv, hgB, hgl, hreads, hcells⟩ := hR.form (by intro e; rw [e] at hxs; simp at hxs; omega)
  subst hv
  have hl1 := hcells (size - 1) (by omega)
  have hl0 := hcells 0 (by omega)
  have hl2 := hcells 1 (by omega)
  clear hcells
  have E1 := hE.1.cell 0
  have E2 := hE.2.1.cell 0
  have E21 := hE.2.1.cell 1
  have E22 := hE.2.1.cell 2
  have E3 := hE.2.2.1.cell 0
  simp only [List.getElem?_toArray, List.getElem?_cons_zero, List.getElem?_cons_succ] at E1 E2 E21 E22 E3
  obtain ⟨x0, hx0⟩ : ∃ x0, rd xs ((0 : Nat) : Int) = x0 := ⟨_, rfl⟩
  obtain ⟨x1, hx1⟩ : ∃ x1, rd xs ((1 : Nat) : Int) = x1 := ⟨_, rfl⟩
  obtain ⟨xl, hxl⟩ : ∃ xl, rd xs ((size - 1 : Nat) : Int) = xl := ⟨_, rfl⟩
  rw [hx0] at hl0
  rw [hx1] at hl2
  rw [hxl] at hl1
  rw [hxs]
  refine callsIn_of_wp Try.func107 rfl trivial ?_ rfl
  simp only [Try.ntmps107, List.size_toArray, List.length_cons, List.length_nil, Nat.reduceAdd, Nat.reduceSub, Array.replicate_succ, Array.replicate_zero, List.push_toArray, List.append_toArray, List.nil_append, List.cons_append]
  have hmx : Try.prog.follows .mixedOrders = true := by kernel_rfl
  have HE := Lib.hid hE
  have HM := Lib.hid hE.2.2.2.2
  have hlt2 := hE.2.1.lt
  have hlt3 := hE.2.2.1.lt
  have HR := Lib.hid hR
  have HJ := Lib.hid hJ
  have HA := Lib.hid hA
  have HRD := Lib.hid hreads
  have HX0 := Lib.hid hx0
  have HX1 := Lib.hid hx1
  have HXL := Lib.hid hxl
  rw [hx1, hxl] at hgt
  rw [hx0, hxl] at hj
  clear hE hR hJ hA hreads hx0 hx1 hxl
  have hd : decide (xl < x1) = false := decide_eq_false hgt
  have HJN := Lib.hid hj
  clear hj
  have hb : Below W.heap.size W (W.drew.alloc (gbox n (.slice A l.length c) m)) := below_alloc (Below.refl _ _).drew _
  have hend : ∀ r, r = Value.bool true → ExtPost b1 b2 m B J Jx pre [] W (.returned r) (W.drew.alloc (gbox n (.slice A l.length c) m)) := by
    rintro r rfl
    refine .inl ⟨rfl, [], rfl, ?_, KpC_below hb⟩
    rw [List.append_nil]
    exact HA.out _ _ _ HJ.out (grown_of_below hb none)
  have HEND := Lib.hid hend
  clear hend hb
  gi_wp2
  refine wpIn_region_any (by assumption) ?_
  change wpAnyIn _ _ _ _ _ _ _ _ _ (World.drew _)
  refine takeE (i := 0) (v := ?v18) (a' := ?b18) rfl rfl (by kernel_rfl) (by kernel_rfl) (by kernel_rfl) (fun _ _ _ h => h) ⟨Or.inl ⟨by rfl, ?hy18⟩, fun _ => rfl⟩ ?ha18 ?_
  case hy18 => (intro w; go_simp; try first | with_reducible rfl | omega)
  case ha18 => (go_simp; try with_reducible rfl)
  refine takeE (i := 3) (v := ?v19) (a' := ?b19) rfl rfl (by kernel_rfl) (by kernel_rfl) (by kernel_rfl) (fun _ _ _ h => h) ⟨Or.inl ⟨by rfl, ?hy19⟩, fun _ => rfl⟩ ?ha19 ?_
  case hy19 => (intro w; go_simp; try first | with_reducible rfl | omega)
  case ha19 => (go_simp; try with_reducible rfl)
  refine wpAnyIn_ready (rs := [1]) (by kernel_rfl) (by simp) ?_
  refine AllReadyIn.cons rfl (fun K hK => ?_) AllReadyIn.nil
  go_simp
  gi_wp2
  refine wpAnyIn_ready (rs := [2]) (by kernel_rfl) (by simp) ?_
  refine AllReadyIn.cons rfl (fun K hK => ?_) AllReadyIn.nil
  go_simp
  refine hK _ _ ?_
  clear hK K
  refine takeE (i := 4) (v := .bool false) (a' := ?b20) rfl rfl (by kernel_rfl) (by kernel_rfl) (by kernel_rfl) (fun _ _ _ h => h) ⟨Or.inl ⟨by rfl, ?hy20⟩, fun _ => rfl⟩ ?ha20 ?_
  case hy20 => (intro w; go_simp; try first | with_reducible rfl | omega)
  case ha20 => (go_simp; try with_reducible rfl)
  refine takeE (i := 5) (v := .bool false) (a' := ?b21) rfl rfl (by kernel_rfl) (by kernel_rfl) (by kernel_rfl) (fun _ _ _ h => h) ⟨Or.inl ⟨by rfl, ?hy21⟩, fun _ => rfl⟩ ?ha21 ?_
  case hy21 => (intro w; go_simp; try first | with_reducible rfl | omega)
  case ha21 => (go_simp; try with_reducible rfl)
  refine takeE (i := 7) (v := ?v22) (a' := ?b22) rfl rfl (by kernel_rfl) (by kernel_rfl) (by kernel_rfl) (fun _ _ _ h => h) ⟨Or.inl ⟨by rfl, ?hy22⟩, fun _ => rfl⟩ ?ha22 ?_
  case hy22 => (intro w; go_simp; try first | with_reducible rfl | omega)
  case ha22 => (go_simp; try with_reducible rfl)
  refine takeE (i := 10) (v := ?v23) (a' := ?b23) rfl rfl (by kernel_rfl) (by kernel_rfl) (by kernel_rfl) (fun _ _ _ h => h) ⟨Or.inl ⟨by rfl, ?hy23⟩, fun _ => rfl⟩ ?ha23 ?_
  case hy23 => (intro w; go_simp; try first | with_reducible rfl | omega)
  case ha23 => (go_simp; try with_reducible rfl)
  refine wpAnyIn_ready (rs := [6, 8]) (by kernel_rfl) (by simp) ?_
  refine AllReadyIn.cons rfl (fun K hK => ?_) (AllReadyIn.cons rfl (fun K hK => ?_) AllReadyIn.nil)
  · go_simp
    refine hK _ _ ?_
    clear hK K
    refine wpAnyIn_ready (rs := [8]) (by kernel_rfl) (by simp) ?_
    refine AllReadyIn.cons rfl (fun K hK => ?_) AllReadyIn.nil
    go_simp
    gi_wp2
    refine wpAnyIn_ready (rs := [9]) (by kernel_rfl) (by simp) ?_
    refine AllReadyIn.cons rfl (fun K hK => ?_) AllReadyIn.nil
    go_simp
    refine hK _ _ ?_
    clear hK K
    refine wpAnyIn_ready (rs := [11]) (by kernel_rfl) (by simp) ?_
    refine AllReadyIn.cons rfl (fun K hK => ?_) AllReadyIn.nil
    go_simp
    refine ⟨trivial, fun h => absurd h (by decide), (callsIn_wide.2 (joined_any n _ m l x0 xl _ rfl HM.out.drew)).mono ?_⟩
    rintro e w' ⟨he, rfl⟩
    rw [HJN.out] at he
    subst he
    dsimp only
    refine hK _ _ ?_
    clear hK K
    refine takeE (i := 12) (v := ?v24) (a' := ?b24) rfl rfl (by kernel_rfl) (by kernel_rfl) (by kernel_rfl) (fun _ _ _ h => h) ⟨Or.inl ⟨by rfl, ?hy24⟩, fun _ => rfl⟩ ?ha24 ?_
    case hy24 => (intro w; go_simp; try first | with_reducible rfl | omega)
    case ha24 => (go_simp; try with_reducible rfl)
    refine takeE (i := 13) (v := ?v25) (a' := ?b25) rfl rfl (by kernel_rfl) (by kernel_rfl) (by kernel_rfl) (fun _ _ _ h => h) ⟨Or.inl ⟨by rfl, ?hy25⟩, fun _ => rfl⟩ ?ha25 ?_
    case hy25 => (intro w; go_simp; try first | with_reducible rfl | omega)
    case ha25 => (go_simp; try with_reducible rfl)
    refine takeE (i := 14) (v := ?v26) (a' := ?b26) rfl rfl (by kernel_rfl) (by kernel_rfl) (by kernel_rfl) (fun _ _ _ h => h) ⟨Or.inl ⟨by rfl, ?hy26⟩, fun _ => rfl⟩ ?ha26 ?_
    case hy26 => (intro w; go_simp; try first | with_reducible rfl | omega)
    case ha26 => (go_simp; try with_reducible rfl)
    refine takeE (i := 15) (v := undef) (a' := ?b27) rfl rfl (by kernel_rfl) (by kernel_rfl) (by kernel_rfl) (fun _ _ _ h => h) ⟨Or.inr ⟨by rfl, rfl⟩, fun _ => rfl⟩ ?ha27 ?_
    case ha27 => (go_simp; try with_reducible rfl)
    refine takeE (i := 16) (v := undef) (a' := ?b28) rfl rfl (by kernel_rfl) (by kernel_rfl) (by kernel_rfl) (fun _ _ _ h => h) ⟨Or.inr ⟨by rfl, rfl⟩, fun _ => rfl⟩ ?ha28 ?_
    case ha28 => (go_simp; try with_reducible rfl)
    refine takeE (i := 17) (v := undef) (a' := ?b29) rfl rfl (by kernel_rfl) (by kernel_rfl) (by kernel_rfl) (fun _ _ _ h => h) ⟨Or.inr ⟨by rfl, rfl⟩, fun _ => rfl⟩ ?ha29 ?_
    case ha29 => (go_simp; try with_reducible rfl)
    refine takeE (i := 18) (v := ?v30) (a' := ?b30) rfl rfl (by kernel_rfl) (by kernel_rfl) (by kernel_rfl) (fun _ _ _ h => h) ⟨Or.inl ⟨by rfl, ?hy30⟩, fun _ => rfl⟩ ?ha30 ?_
    case hy30 => (intro w; go_simp; try first | with_reducible rfl | omega)
    case ha30 => (go_simp; try with_reducible rfl)
    refine takeE (i := 19) (v := ?v31) (a' := ?b31) rfl rfl (by kernel_rfl) (by kernel_rfl) (by kernel_rfl) (fun _ _ _ h => h) ⟨Or.inl ⟨by rfl, ?hy31⟩, fun _ => rfl⟩ ?ha31 ?_
    case hy31 => (intro w; go_simp; try first | with_reducible rfl | omega)
    case ha31 => (go_simp; try with_reducible rfl)
    refine wpAnyIn_done (by kernel_rfl) ?_ _
    gi_wp2
    go_ret
    exact HEND.out _ rfl
  · go_simp
    gi_wp2
    refine wpAnyIn_ready (rs := [6, 9]) (by kernel_rfl) (by simp) ?_
    refine AllReadyIn.cons rfl (fun K hK => ?_) (AllReadyIn.cons rfl (fun K hK => ?_) AllReadyIn.nil)
    · go_simp
      refine hK _ _ ?_
      clear hK K
      refine wpAnyIn_ready (rs := [9]) (by kernel_rfl) (by simp) ?_
      refine AllReadyIn.cons rfl (fun K hK => ?_) AllReadyIn.nil
      go_simp
      refine hK _ _ ?_
      clear hK K
      refine wpAnyIn_ready (rs := [11]) (by kernel_rfl) (by simp) ?_
      refine AllReadyIn.cons rfl (fun K hK => ?_) AllReadyIn.nil
      go_simp
      refine ⟨trivial, fun h => absurd h (by decide), (callsIn_wide.2 (joined_any n _ m l x0 xl _ rfl HM.out.drew)).mono ?_⟩
      rintro e w' ⟨he, rfl⟩
      rw [HJN.out] at he
      subst he
      dsimp only
      refine hK _ _ ?_
      clear hK K
      refine takeE (i := 12) (v := ?v32) (a' := ?b32) rfl rfl (by kernel_rfl) (by kernel_rfl) (by kernel_rfl) (fun _ _ _ h => h) ⟨Or.inl ⟨by rfl, ?hy32⟩, fun _ => rfl⟩ ?ha32 ?_
      case hy32 => (intro w; go_simp; try first | with_reducible rfl | omega)
      case ha32 => (go_simp; try with_reducible rfl)
      refine takeE (i := 13) (v := ?v33) (a' := ?b33) rfl rfl (by kernel_rfl) (by kernel_rfl) (by kernel_rfl) (fun _ _ _ h => h) ⟨Or.inl ⟨by rfl, ?hy33⟩, fun _ => rfl⟩ ?ha33 ?_
      case hy33 => (intro w; go_simp; try first | with_reducible rfl | omega)
      case ha33 => (go_simp; try with_reducible rfl)
      refine takeE (i := 14) (v := ?v34) (a' := ?b34) rfl rfl (by kernel_rfl) (by kernel_rfl) (by kernel_rfl) (fun _ _ _ h => h) ⟨Or.inl ⟨by rfl, ?hy34⟩, fun _ => rfl⟩ ?ha34 ?_
      case hy34 => (intro w; go_simp; try first | with_reducible rfl | omega)
      case ha34 => (go_simp; try with_reducible rfl)
      refine takeE (i := 15) (v := undef) (a' := ?b35) rfl rfl (by kernel_rfl) (by kernel_rfl) (by kernel_rfl) (fun _ _ _ h => h) ⟨Or.inr ⟨by rfl, rfl⟩, fun _ => rfl⟩ ?ha35 ?_
      case ha35 => (go_simp; try with_reducible rfl)
      refine takeE (i := 16) (v := undef) (a' := ?b36) rfl rfl (by kernel_rfl) (by kernel_rfl) (by kernel_rfl) (fun _ _ _ h => h) ⟨Or.inr ⟨by rfl, rfl⟩, fun _ => rfl⟩ ?ha36 ?_
      case ha36 => (go_simp; try with_reducible rfl)
      refine takeE (i := 17) (v := undef) (a' := ?b37) rfl rfl (by kernel_rfl) (by kernel_rfl) (by kernel_rfl) (fun _ _ _ h => h) ⟨Or.inr ⟨by rfl, rfl⟩, fun _ => rfl⟩ ?ha37 ?_
      case ha37 => (go_simp; try with_reducible rfl)
      refine takeE (i := 18) (v := ?v38) (a' := ?b38) rfl rfl (by kernel_rfl) (by kernel_rfl) (by kernel_rfl) (fun _ _ _ h => h) ⟨Or.inl ⟨by rfl, ?hy38⟩, fun _ => rfl⟩ ?ha38 ?_
      case hy38 => (intro w; go_simp; try first | with_reducible rfl | omega)
      case ha38 => (go_simp; try with_reducible rfl)
      refine takeE (i := 19) (v := ?v39) (a' := ?b39) rfl rfl (by kernel_rfl) (by kernel_rfl) (by kernel_rfl) (fun _ _ _ h => h) ⟨Or.inl ⟨by rfl, ?hy39⟩, fun _ => rfl⟩ ?ha39 ?_
      case hy39 => (intro w; go_simp; try first | with_reducible rfl | omega)
      case ha39 => (go_simp; try with_reducible rfl)
      refine wpAnyIn_done (by kernel_rfl) ?_ _
      gi_wp2
      go_ret
      exact HEND.out _ rfl
    · go_simp
      refine hK _ _ ?_
      clear hK K
      refine wpAnyIn_ready (rs := [6]) (by kernel_rfl) (by simp) ?_
      refine AllReadyIn.cons rfl (fun K hK => ?_) AllReadyIn.nil
      go_simp
      refine hK _ _ ?_
      clear hK K
      refine wpAnyIn_ready (rs := [11]) (by kernel_rfl) (by simp) ?_
      refine AllReadyIn.cons rfl (fun K hK => ?_) AllReadyIn.nil
      go_simp
      refine ⟨trivial, fun h => absurd h (by decide), (callsIn_wide.2 (joined_any n _ m l x0 xl _ rfl HM.out.drew)).mono ?_⟩
      rintro e w' ⟨he, rfl⟩
      rw [HJN.out] at he
      subst he
      dsimp only
      refine hK _ _ ?_
      clear hK K
      refine takeE (i := 12) (v := ?v40) (a' := ?b40) rfl rfl (by kernel_rfl) (by kernel_rfl) (by kernel_rfl) (fun _ _ _ h => h) ⟨Or.inl ⟨by rfl, ?hy40⟩, fun _ => rfl⟩ ?ha40 ?_
      case hy40 => (intro w; go_simp; try first | with_reducible rfl | omega)
      case ha40 => (go_simp; try with_reducible rfl)
      refine takeE (i := 13) (v := ?v41) (a' := ?b41) rfl rfl (by kernel_rfl) (by kernel_rfl) (by kernel_rfl) (fun _ _ _ h => h) ⟨Or.inl ⟨by rfl, ?hy41⟩, fun _ => rfl⟩ ?ha41 ?_
      case hy41 => (intro w; go_simp; try first | with_reducible rfl | omega)
      case ha41 => (go_simp; try with_reducible rfl)
      refine takeE (i := 14) (v := ?v42) (a' := ?b42) rfl rfl (by kernel_rfl) (by kernel_rfl) (by kernel_rfl) (fun _ _ _ h => h) ⟨Or.inl ⟨by rfl, ?hy42⟩, fun _ => rfl⟩ ?ha42 ?_
      case hy42 => (intro w; go_simp; try first | with_reducible rfl | omega)
      case ha42 => (go_simp; try with_reducible rfl)
      refine takeE (i := 15) (v := undef) (a' := ?b43) rfl rfl (by kernel_rfl) (by kernel_rfl) (by kernel_rfl) (fun _ _ _ h => h) ⟨Or.inr ⟨by rfl, rfl⟩, fun _ => rfl⟩ ?ha43 ?_
      case ha43 => (go_simp; try with_reducible rfl)
      refine takeE (i := 16) (v := undef) (a' := ?b44) rfl rfl (by kernel_rfl) (by kernel_rfl) (by kernel_rfl) (fun _ _ _ h => h) ⟨Or.inr ⟨by rfl, rfl⟩, fun _ => rfl⟩ ?ha44 ?_
      case ha44 => (go_simp; try with_reducible rfl)
      refine takeE (i := 17) (v := undef) (a' := ?b45) rfl rfl (by kernel_rfl) (by kernel_rfl) (by kernel_rfl) (fun _ _ _ h => h) ⟨Or.inr ⟨by rfl, rfl⟩, fun _ => rfl⟩ ?ha45 ?_
      case ha45 => (go_simp; try with_reducible rfl)
      refine takeE (i := 18) (v := ?v46) (a' := ?b46) rfl rfl (by kernel_rfl) (by kernel_rfl) (by kernel_rfl) (fun _ _ _ h => h) ⟨Or.inl ⟨by rfl, ?hy46⟩, fun _ => rfl⟩ ?ha46 ?_
      case hy46 => (intro w; go_simp; try first | with_reducible rfl | omega)
      case ha46 => (go_simp; try with_reducible rfl)
      refine takeE (i := 19) (v := ?v47) (a' := ?b47) rfl rfl (by kernel_rfl) (by kernel_rfl) (by kernel_rfl) (fun _ _ _ h => h) ⟨Or.inl ⟨by rfl, ?hy47⟩, fun _ => rfl⟩ ?ha47 ?_
      case hy47 => (intro w; go_simp; try first | with_reducible rfl | omega)
      case ha47 => (go_simp; try with_reducible rfl)
      refine wpAnyIn_done (by kernel_rfl) ?_ _
      gi_wp2
      go_ret
      exact HEND.out _ rfl

end Go.Proofs.Ytkefmlhkejoknaa.L

/- The iterator (graph).cycles: extend at its full length, a cycle. -/
namespace Go.Proofs.Ytkefmlhkejoknaa.L
set_option linter.unusedVariables false
set_option linter.unusedSimpArgs false
open Go.RowKit Go.Shelf Go.Proofs.YtkefmlhkejoknaaW.PrintWords Go.Proofs.YtkefmlhkejoknaaW.PrintLast
attribute [local go_sem] Oper.semAt_some

set_option maxRecDepth 100000 in
set_option maxHeartbeats 4000000 in
theorem extend_yes (n : Int) (A : Option Addr) (c m : Nat) (l : List S49) (size lp b1 b2 b3 b4 B : Nat) (J Jx : List ACyc → World → Prop) (d : Nat) (pre : List ACyc) (v : Value) (xs : List Int) (W : World)
    (h3 : B ≤ b3) (h4 : B ≤ b4) (hsz : 3 ≤ size) (hsz2 : size ≤ 12) (hxs : xs.length = size) (hE : CycEnv n A c m l size lp b1 b2 b3 b4 W) (hR : CyC B (v, xs) W) (hBW : B ≤ W.heap.size) (hA : ∀ s W W', J s W → W.grownBy W' none → J s W')
    (hY : ∀ W1, J pre W1 → CyC B (v, xs) W1 → YieldAt Fence.wide (d - 1) Try.prog lp #[v] W1 fun e W' =>
      (e = .returned (.bool true) ∧ J (pre ++ [(v, xs)]) W' ∧ KpC b1 b2 m B W1 W') ∨ (e = .returned (.bool false) ∧ Jx (pre ++ [(v, xs)]) W'))
    (hJ : J pre W) (hgt : ¬ rd xs ((size - 1 : Nat) : Int) < rd xs ((1 : Nat) : Int)) (hj : joinedB l (rd xs ((0 : Nat) : Int)) (rd xs ((size - 1 : Nat) : Int)) = true) :
    CallsIn Fence.wide d Try.prog 107 #[v, .pointer (some ⟨b1, 0, none⟩), .pointer (some ⟨b2, 0, none⟩), .pointer (some ⟨b3, 0, none⟩), .pointer (some ⟨b4, 0, none⟩)] W (ExtPost b1 b2 m B J Jx pre [xs] W) := by
  obtain ⟨g, cv, hv, hcv, hgB, hgl, hreads, hcells⟩ := hR.form (by intro e; rw [e] at hxs; simp at hxs; omega)
  subst hv
  have hl1 := hcells (size - 1) (by omega)
  have hl0 := hcells 0 (by omega)
  have hl2 := hcells 1 (by omega)
  clear hcells
  have E1 := hE.1.cell 0
  have E2 := hE.2.1.cell 0
  have E21 := hE.2.1.cell 1
  have E22 := hE.2.1.cell 2
  have E3 := hE.2.2.1.cell 0
  simp only [List.getElem?_toArray, List.getElem?_cons_zero, List.getElem?_cons_succ] at E1 E2 E21 E22 E3
  obtain ⟨x0, hx0⟩ : ∃ x0, rd xs ((0 : Nat) : Int) = x0 := ⟨_, rfl⟩
  obtain ⟨x1, hx1⟩ : ∃ x1, rd xs ((1 : Nat) : Int) = x1 := ⟨_, rfl⟩
  obtain ⟨xl, hxl⟩ : ∃ xl, rd xs ((size - 1 : Nat) : Int) = xl := ⟨_, rfl⟩
  rw [hx0] at hl0
  rw [hx1] at hl2
  rw [hxl] at hl1
  rw [hxs]
  refine callsIn_of_wp Try.func107 rfl trivial ?_ rfl
  simp only [Try.ntmps107, List.size_toArray, List.length_cons, List.length_nil, Nat.reduceAdd, Nat.reduceSub, Array.replicate_succ, Array.replicate_zero, List.push_toArray, List.append_toArray, List.nil_append, List.cons_append]
  have hmx : Try.prog.follows .mixedOrders = true := by kernel_rfl
  have HE := Lib.hid hE
  have HM := Lib.hid hE.2.2.2.2
  have hlt2 := hE.2.1.lt
  have hlt3 := hE.2.2.1.lt
  have HR := Lib.hid hR
  have HJ := Lib.hid hJ
  have HA := Lib.hid hA
  have HY := Lib.hid hY
  have HRD := Lib.hid hreads
  have HX0 := Lib.hid hx0
  have HX1 := Lib.hid hx1
  have HXL := Lib.hid hxl
  rw [hx1, hxl] at hgt
  rw [hx0, hxl] at hj
  clear hE hR hJ hA hY hreads hx0 hx1 hxl
  have hd : decide (xl < x1) = false := decide_eq_false hgt
  have HJN := Lib.hid hj
  clear hj
  have hb : Below W.heap.size W ((W.alloc (gbox n (.slice A l.length c) m)).drew) := (below_alloc (Below.refl _ _) _).drew
  have hy := HY.out _ (HA.out _ _ _ HJ.out (grown_of_below hb none)) (HR.out.kept (KpC_below (b1 := b1) (b2 := b2) (m := m) hb))
  obtain ⟨fn, tmps, assign, body, hyy, hR2⟩ := hy
  rw [hxs] at hyy
  have HR2 := Lib.hid hR2
  have HKB := Lib.hid (KpC_below (b1 := b1) (b2 := b2) (m := m) (B := B) hb)
  clear hR2 hb
  gi_wp2
  refine wpIn_region_any (by assumption) ?_
  change wpAnyIn _ _ _ _ _ _ _ _ _ (World.drew _)
  refine takeE (i := 0) (v := ?v18) (a' := ?b18) rfl rfl (by kernel_rfl) (by kernel_rfl) (by kernel_rfl) (fun _ _ _ h => h) ⟨Or.inl ⟨by rfl, ?hy18⟩, fun _ => rfl⟩ ?ha18 ?_
  case hy18 => (intro w; go_simp; try first | with_reducible rfl | omega)
  case ha18 => (go_simp; try with_reducible rfl)
  refine takeE (i := 3) (v := ?v19) (a' := ?b19) rfl rfl (by kernel_rfl) (by kernel_rfl) (by kernel_rfl) (fun _ _ _ h => h) ⟨Or.inl ⟨by rfl, ?hy19⟩, fun _ => rfl⟩ ?ha19 ?_
  case hy19 => (intro w; go_simp; try first | with_reducible rfl | omega)
  case ha19 => (go_simp; try with_reducible rfl)
  refine wpAnyIn_ready (rs := [1]) (by kernel_rfl) (by simp) ?_
  refine AllReadyIn.cons rfl (fun K hK => ?_) AllReadyIn.nil
  go_simp
  gi_wp2
  refine wpAnyIn_ready (rs := [2]) (by kernel_rfl) (by simp) ?_
  refine AllReadyIn.cons rfl (fun K hK => ?_) AllReadyIn.nil
  go_simp
  refine hK _ _ ?_
  clear hK K
  refine takeE (i := 4) (v := .bool false) (a' := ?b20) rfl rfl (by kernel_rfl) (by kernel_rfl) (by kernel_rfl) (fun _ _ _ h => h) ⟨Or.inl ⟨by rfl, ?hy20⟩, fun _ => rfl⟩ ?ha20 ?_
  case hy20 => (intro w; go_simp; try first | with_reducible rfl | omega)
  case ha20 => (go_simp; try with_reducible rfl)
  refine takeE (i := 5) (v := .bool false) (a' := ?b21) rfl rfl (by kernel_rfl) (by kernel_rfl) (by kernel_rfl) (fun _ _ _ h => h) ⟨Or.inl ⟨by rfl, ?hy21⟩, fun _ => rfl⟩ ?ha21 ?_
  case hy21 => (intro w; go_simp; try first | with_reducible rfl | omega)
  case ha21 => (go_simp; try with_reducible rfl)
  refine takeE (i := 7) (v := ?v22) (a' := ?b22) rfl rfl (by kernel_rfl) (by kernel_rfl) (by kernel_rfl) (fun _ _ _ h => h) ⟨Or.inl ⟨by rfl, ?hy22⟩, fun _ => rfl⟩ ?ha22 ?_
  case hy22 => (intro w; go_simp; try first | with_reducible rfl | omega)
  case ha22 => (go_simp; try with_reducible rfl)
  refine takeE (i := 10) (v := ?v23) (a' := ?b23) rfl rfl (by kernel_rfl) (by kernel_rfl) (by kernel_rfl) (fun _ _ _ h => h) ⟨Or.inl ⟨by rfl, ?hy23⟩, fun _ => rfl⟩ ?ha23 ?_
  case hy23 => (intro w; go_simp; try first | with_reducible rfl | omega)
  case ha23 => (go_simp; try with_reducible rfl)
  refine wpAnyIn_ready (rs := [6, 8]) (by kernel_rfl) (by simp) ?_
  refine AllReadyIn.cons rfl (fun K hK => ?_) (AllReadyIn.cons rfl (fun K hK => ?_) AllReadyIn.nil)
  · go_simp
    refine hK _ _ ?_
    clear hK K
    refine wpAnyIn_ready (rs := [8]) (by kernel_rfl) (by simp) ?_
    refine AllReadyIn.cons rfl (fun K hK => ?_) AllReadyIn.nil
    go_simp
    gi_wp2
    refine wpAnyIn_ready (rs := [9]) (by kernel_rfl) (by simp) ?_
    refine AllReadyIn.cons rfl (fun K hK => ?_) AllReadyIn.nil
    go_simp
    refine hK _ _ ?_
    clear hK K
    refine wpAnyIn_ready (rs := [11]) (by kernel_rfl) (by simp) ?_
    refine AllReadyIn.cons rfl (fun K hK => ?_) AllReadyIn.nil
    go_simp
    refine ⟨trivial, fun h => absurd h (by decide), (callsIn_wide.2 (joined_any n _ m l x0 xl _ rfl HM.out.drew)).mono ?_⟩
    rintro e w' ⟨he, rfl⟩
    rw [HJN.out] at he
    subst he
    dsimp only
    refine hK _ _ ?_
    clear hK K
    refine takeE (i := 12) (v := .bool false) (a' := ?b48) rfl rfl (by kernel_rfl) (by kernel_rfl) (by kernel_rfl) (fun _ _ _ h => h) ⟨Or.inl ⟨by rfl, ?hy48⟩, fun _ => rfl⟩ ?ha48 ?_
    case hy48 => (intro w; go_simp; try first | with_reducible rfl | omega)
    case ha48 => (go_simp; try with_reducible rfl)
    refine takeE (i := 13) (v := .bool false) (a' := ?b49) rfl rfl (by kernel_rfl) (by kernel_rfl) (by kernel_rfl) (fun _ _ _ h => h) ⟨Or.inl ⟨by rfl, ?hy49⟩, fun _ => rfl⟩ ?ha49 ?_
    case hy49 => (intro w; go_simp; try first | with_reducible rfl | omega)
    case ha49 => (go_simp; try with_reducible rfl)
    refine takeE (i := 14) (v := .bool false) (a' := ?b50) rfl rfl (by kernel_rfl) (by kernel_rfl) (by kernel_rfl) (fun _ _ _ h => h) ⟨Or.inl ⟨by rfl, ?hy50⟩, fun _ => rfl⟩ ?ha50 ?_
    case hy50 => (intro w; go_simp; try first | with_reducible rfl | omega)
    case ha50 => (go_simp; try with_reducible rfl)
    refine takeE (i := 16) (v := ?v51) (a' := ?b51) rfl rfl (by kernel_rfl) (by kernel_rfl) (by kernel_rfl) (fun _ _ _ h => h) ⟨Or.inl ⟨by rfl, ?hy51⟩, fun _ => rfl⟩ ?ha51 ?_
    case hy51 => (intro w; go_simp; try first | with_reducible rfl | omega)
    case ha51 => (go_simp; try with_reducible rfl)
    refine wpAnyIn_ready (rs := [15]) (by kernel_rfl) (by simp) ?_
    refine AllReadyIn.cons rfl (fun K hK => ?_) AllReadyIn.nil
    go_simp
    refine hK _ _ ?_
    clear hK K
    refine wpAnyIn_ready (rs := [17]) (by kernel_rfl) (by simp) ?_
    refine AllReadyIn.cons rfl (fun K hK => ?_) AllReadyIn.nil
    go_simp
    refine ⟨fun h => absurd h (by decide), HR2.out.mono ?_⟩
    rintro e w3 (⟨rfl, hJ3, hk3⟩ | ⟨rfl, hJx3⟩)
    · have HJ3 := Lib.hid hJ3
      have HK3 := Lib.hid hk3
      clear hJ3 hk3
      dsimp only
      refine hK _ _ ?_
      clear hK K
      refine takeE (i := 18) (v := .bool true) (a' := ?b52) rfl rfl (by kernel_rfl) (by kernel_rfl) (by kernel_rfl) (fun _ _ _ h => h) ⟨Or.inl ⟨by rfl, ?hy52⟩, fun _ => rfl⟩ ?ha52 ?_
      case hy52 => (intro w; go_simp; try first | with_reducible rfl | omega)
      case ha52 => (go_simp; try with_reducible rfl)
      refine takeE (i := 19) (v := .bool true) (a' := ?b53) rfl rfl (by kernel_rfl) (by kernel_rfl) (by kernel_rfl) (fun _ _ _ h => h) ⟨Or.inl ⟨by rfl, ?hy53⟩, fun _ => rfl⟩ ?ha53 ?_
      case hy53 => (intro w; go_simp; try first | with_reducible rfl | omega)
      case ha53 => (go_simp; try with_reducible rfl)
      refine wpAnyIn_done (by kernel_rfl) ?_ _
      gi_wp2
      go_ret
      exact .inl ⟨rfl, [(.slice (some ⟨g, 0, none⟩) xs.length cv, xs)], rfl, HJ3.out, KpC_t HKB.out HK3.out⟩
    · have HJ3 := Lib.hid hJx3
      clear hJx3
      dsimp only
      refine hK _ _ ?_
      clear hK K
      refine takeE (i := 18) (v := .bool false) (a' := ?b54) rfl rfl (by kernel_rfl) (by kernel_rfl) (by kernel_rfl) (fun _ _ _ h => h) ⟨Or.inl ⟨by rfl, ?hy54⟩, fun _ => rfl⟩ ?ha54 ?_
      case hy54 => (intro w; go_simp; try first | with_reducible rfl | omega)
      case ha54 => (go_simp; try with_reducible rfl)
      refine takeE (i := 19) (v := .bool false) (a' := ?b55) rfl rfl (by kernel_rfl) (by kernel_rfl) (by kernel_rfl) (fun _ _ _ h => h) ⟨Or.inl ⟨by rfl, ?hy55⟩, fun _ => rfl⟩ ?ha55 ?_
      case hy55 => (intro w; go_simp; try first | with_reducible rfl | omega)
      case ha55 => (go_simp; try with_reducible rfl)
      refine wpAnyIn_done (by kernel_rfl) ?_ _
      gi_wp2
      go_ret
      exact .inr ⟨rfl, [(.slice (some ⟨g, 0, none⟩) xs.length cv, xs)], by simp, by simp, HJ3.out⟩
  · go_simp
    gi_wp2
    refine wpAnyIn_ready (rs := [6, 9]) (by kernel_rfl) (by simp) ?_
    refine AllReadyIn.cons rfl (fun K hK => ?_) (AllReadyIn.cons rfl (fun K hK => ?_) AllReadyIn.nil)
    · go_simp
      refine hK _ _ ?_
      clear hK K
      refine wpAnyIn_ready (rs := [9]) (by kernel_rfl) (by simp) ?_
      refine AllReadyIn.cons rfl (fun K hK => ?_) AllReadyIn.nil
      go_simp
      refine hK _ _ ?_
      clear hK K
      refine wpAnyIn_ready (rs := [11]) (by kernel_rfl) (by simp) ?_
      refine AllReadyIn.cons rfl (fun K hK => ?_) AllReadyIn.nil
      go_simp
      refine ⟨trivial, fun h => absurd h (by decide), (callsIn_wide.2 (joined_any n _ m l x0 xl _ rfl HM.out.drew)).mono ?_⟩
      rintro e w' ⟨he, rfl⟩
      rw [HJN.out] at he
      subst he
      dsimp only
      refine hK _ _ ?_
      clear hK K
      refine takeE (i := 12) (v := .bool false) (a' := ?b56) rfl rfl (by kernel_rfl) (by kernel_rfl) (by kernel_rfl) (fun _ _ _ h => h) ⟨Or.inl ⟨by rfl, ?hy56⟩, fun _ => rfl⟩ ?ha56 ?_
      case hy56 => (intro w; go_simp; try first | with_reducible rfl | omega)
      case ha56 => (go_simp; try with_reducible rfl)
      refine takeE (i := 13) (v := .bool false) (a' := ?b57) rfl rfl (by kernel_rfl) (by kernel_rfl) (by kernel_rfl) (fun _ _ _ h => h) ⟨Or.inl ⟨by rfl, ?hy57⟩, fun _ => rfl⟩ ?ha57 ?_
      case hy57 => (intro w; go_simp; try first | with_reducible rfl | omega)
      case ha57 => (go_simp; try with_reducible rfl)
      refine takeE (i := 14) (v := .bool false) (a' := ?b58) rfl rfl (by kernel_rfl) (by kernel_rfl) (by kernel_rfl) (fun _ _ _ h => h) ⟨Or.inl ⟨by rfl, ?hy58⟩, fun _ => rfl⟩ ?ha58 ?_
      case hy58 => (intro w; go_simp; try first | with_reducible rfl | omega)
      case ha58 => (go_simp; try with_reducible rfl)
      refine takeE (i := 16) (v := ?v59) (a' := ?b59) rfl rfl (by kernel_rfl) (by kernel_rfl) (by kernel_rfl) (fun _ _ _ h => h) ⟨Or.inl ⟨by rfl, ?hy59⟩, fun _ => rfl⟩ ?ha59 ?_
      case hy59 => (intro w; go_simp; try first | with_reducible rfl | omega)
      case ha59 => (go_simp; try with_reducible rfl)
      refine wpAnyIn_ready (rs := [15]) (by kernel_rfl) (by simp) ?_
      refine AllReadyIn.cons rfl (fun K hK => ?_) AllReadyIn.nil
      go_simp
      refine hK _ _ ?_
      clear hK K
      refine wpAnyIn_ready (rs := [17]) (by kernel_rfl) (by simp) ?_
      refine AllReadyIn.cons rfl (fun K hK => ?_) AllReadyIn.nil
      go_simp
      refine ⟨fun h => absurd h (by decide), HR2.out.mono ?_⟩
      rintro e w3 (⟨rfl, hJ3, hk3⟩ | ⟨rfl, hJx3⟩)
      · have HJ3 := Lib.hid hJ3
        have HK3 := Lib.hid hk3
        clear hJ3 hk3
        dsimp only
        refine hK _ _ ?_
        clear hK K
        refine takeE (i := 18) (v := .bool true) (a' := ?b60) rfl rfl (by kernel_rfl) (by kernel_rfl) (by kernel_rfl) (fun _ _ _ h => h) ⟨Or.inl ⟨by rfl, ?hy60⟩, fun _ => rfl⟩ ?ha60 ?_
        case hy60 => (intro w; go_simp; try first | with_reducible rfl | omega)
        case ha60 => (go_simp; try with_reducible rfl)
        refine takeE (i := 19) (v := .bool true) (a' := ?b61) rfl rfl (by kernel_rfl) (by kernel_rfl) (by kernel_rfl) (fun _ _ _ h => h) ⟨Or.inl ⟨by rfl, ?hy61⟩, fun _ => rfl⟩ ?ha61 ?_
        case hy61 => (intro w; go_simp; try first | with_reducible rfl | omega)
        case ha61 => (go_simp; try with_reducible rfl)
        refine wpAnyIn_done (by kernel_rfl) ?_ _
        gi_wp2
        go_ret
        exact .inl ⟨rfl, [(.slice (some ⟨g, 0, none⟩) xs.length cv, xs)], rfl, HJ3.out, KpC_t HKB.out HK3.out⟩
      · have HJ3 := Lib.hid hJx3
        clear hJx3
        dsimp only
        refine hK _ _ ?_
        clear hK K
        refine takeE (i := 18) (v := .bool false) (a' := ?b62) rfl rfl (by kernel_rfl) (by kernel_rfl) (by kernel_rfl) (fun _ _ _ h => h) ⟨Or.inl ⟨by rfl, ?hy62⟩, fun _ => rfl⟩ ?ha62 ?_
        case hy62 => (intro w; go_simp; try first | with_reducible rfl | omega)
        case ha62 => (go_simp; try with_reducible rfl)
        refine takeE (i := 19) (v := .bool false) (a' := ?b63) rfl rfl (by kernel_rfl) (by kernel_rfl) (by kernel_rfl) (fun _ _ _ h => h) ⟨Or.inl ⟨by rfl, ?hy63⟩, fun _ => rfl⟩ ?ha63 ?_
        case hy63 => (intro w; go_simp; try first | with_reducible rfl | omega)
        case ha63 => (go_simp; try with_reducible rfl)
        refine wpAnyIn_done (by kernel_rfl) ?_ _
        gi_wp2
        go_ret
        exact .inr ⟨rfl, [(.slice (some ⟨g, 0, none⟩) xs.length cv, xs)], by simp, by simp, HJ3.out⟩
    · go_simp
      refine hK _ _ ?_
      clear hK K
      refine wpAnyIn_ready (rs := [6]) (by kernel_rfl) (by simp) ?_
      refine AllReadyIn.cons rfl (fun K hK => ?_) AllReadyIn.nil
      go_simp
      refine hK _ _ ?_
      clear hK K
      refine wpAnyIn_ready (rs := [11]) (by kernel_rfl) (by simp) ?_
      refine AllReadyIn.cons rfl (fun K hK => ?_) AllReadyIn.nil
      go_simp
      refine ⟨trivial, fun h => absurd h (by decide), (callsIn_wide.2 (joined_any n _ m l x0 xl _ rfl HM.out.drew)).mono ?_⟩
      rintro e w' ⟨he, rfl⟩
      rw [HJN.out] at he
      subst he
      dsimp only
      refine hK _ _ ?_
      clear hK K
      refine takeE (i := 12) (v := .bool false) (a' := ?b64) rfl rfl (by kernel_rfl) (by kernel_rfl) (by kernel_rfl) (fun _ _ _ h => h) ⟨Or.inl ⟨by rfl, ?hy64⟩, fun _ => rfl⟩ ?ha64 ?_
      case hy64 => (intro w; go_simp; try first | with_reducible rfl | omega)
      case ha64 => (go_simp; try with_reducible rfl)
      refine takeE (i := 13) (v := .bool false) (a' := ?b65) rfl rfl (by kernel_rfl) (by kernel_rfl) (by kernel_rfl) (fun _ _ _ h => h) ⟨Or.inl ⟨by rfl, ?hy65⟩, fun _ => rfl⟩ ?ha65 ?_
      case hy65 => (intro w; go_simp; try first | with_reducible rfl | omega)
      case ha65 => (go_simp; try with_reducible rfl)
      refine takeE (i := 14) (v := .bool false) (a' := ?b66) rfl rfl (by kernel_rfl) (by kernel_rfl) (by kernel_rfl) (fun _ _ _ h => h) ⟨Or.inl ⟨by rfl, ?hy66⟩, fun _ => rfl⟩ ?ha66 ?_
      case hy66 => (intro w; go_simp; try first | with_reducible rfl | omega)
      case ha66 => (go_simp; try with_reducible rfl)
      refine takeE (i := 16) (v := ?v67) (a' := ?b67) rfl rfl (by kernel_rfl) (by kernel_rfl) (by kernel_rfl) (fun _ _ _ h => h) ⟨Or.inl ⟨by rfl, ?hy67⟩, fun _ => rfl⟩ ?ha67 ?_
      case hy67 => (intro w; go_simp; try first | with_reducible rfl | omega)
      case ha67 => (go_simp; try with_reducible rfl)
      refine wpAnyIn_ready (rs := [15]) (by kernel_rfl) (by simp) ?_
      refine AllReadyIn.cons rfl (fun K hK => ?_) AllReadyIn.nil
      go_simp
      refine hK _ _ ?_
      clear hK K
      refine wpAnyIn_ready (rs := [17]) (by kernel_rfl) (by simp) ?_
      refine AllReadyIn.cons rfl (fun K hK => ?_) AllReadyIn.nil
      go_simp
      refine ⟨fun h => absurd h (by decide), HR2.out.mono ?_⟩
      rintro e w3 (⟨rfl, hJ3, hk3⟩ | ⟨rfl, hJx3⟩)
      · have HJ3 := Lib.hid hJ3
        have HK3 := Lib.hid hk3
        clear hJ3 hk3
        dsimp only
        refine hK _ _ ?_
        clear hK K
        refine takeE (i := 18) (v := .bool true) (a' := ?b68) rfl rfl (by kernel_rfl) (by kernel_rfl) (by kernel_rfl) (fun _ _ _ h => h) ⟨Or.inl ⟨by rfl, ?hy68⟩, fun _ => rfl⟩ ?ha68 ?_
        case hy68 => (intro w; go_simp; try first | with_reducible rfl | omega)
        case ha68 => (go_simp; try with_reducible rfl)
        refine takeE (i := 19) (v := .bool true) (a' := ?b69) rfl rfl (by kernel_rfl) (by kernel_rfl) (by kernel_rfl) (fun _ _ _ h => h) ⟨Or.inl ⟨by rfl, ?hy69⟩, fun _ => rfl⟩ ?ha69 ?_
        case hy69 => (intro w; go_simp; try first | with_reducible rfl | omega)
        case ha69 => (go_simp; try with_reducible rfl)
        refine wpAnyIn_done (by kernel_rfl) ?_ _
        gi_wp2
        go_ret
        exact .inl ⟨rfl, [(.slice (some ⟨g, 0, none⟩) xs.length cv, xs)], rfl, HJ3.out, KpC_t HKB.out HK3.out⟩
      · have HJ3 := Lib.hid hJx3
        clear hJx3
        dsimp only
        refine hK _ _ ?_
        clear hK K
        refine takeE (i := 18) (v := .bool false) (a' := ?b70) rfl rfl (by kernel_rfl) (by kernel_rfl) (by kernel_rfl) (fun _ _ _ h => h) ⟨Or.inl ⟨by rfl, ?hy70⟩, fun _ => rfl⟩ ?ha70 ?_
        case hy70 => (intro w; go_simp; try first | with_reducible rfl | omega)
        case ha70 => (go_simp; try with_reducible rfl)
        refine takeE (i := 19) (v := .bool false) (a' := ?b71) rfl rfl (by kernel_rfl) (by kernel_rfl) (by kernel_rfl) (fun _ _ _ h => h) ⟨Or.inl ⟨by rfl, ?hy71⟩, fun _ => rfl⟩ ?ha71 ?_
        case hy71 => (intro w; go_simp; try first | with_reducible rfl | omega)
        case ha71 => (go_simp; try with_reducible rfl)
        refine wpAnyIn_done (by kernel_rfl) ?_ _
        gi_wp2
        go_ret
        exact .inr ⟨rfl, [(.slice (some ⟨g, 0, none⟩) xs.length cv, xs)], by simp, by simp, HJ3.out⟩


end Go.Proofs.Ytkefmlhkejoknaa.L

/- The iterator (graph).cycles: extend below its full length. -/
namespace Go.Proofs.Ytkefmlhkejoknaa.L
set_option linter.unusedVariables false
set_option linter.unusedSimpArgs false
open Go.RowKit Go.Shelf Go.Proofs.YtkefmlhkejoknaaW.PrintWords Go.Proofs.YtkefmlhkejoknaaW.PrintLast
attribute [local go_sem] Oper.semAt_some

/-- The vertices above the first one that are tried. -/
theorem cycB_step (n : Int) (l : List S49) (size d : Nat) (xs : List Int) (x0 xl : Int) (hne : xs ≠ []) (h0 : rd xs ((0 : Nat) : Int) = x0) (hl : rd xs ((xs.length - 1 : Nat) : Int) = xl) :
    cycB n l size (d + 1) xs = ((List.range (n - (x0 + 1)).toNat).map fun (i : Nat) => x0 + 1 + (i : Int)).flatMap fun v => if joinedB l xl v && !xs.contains v then cycB n l size d (xs ++ [v]) else [] := by
  have e0 : xs.headD 0 = x0 := by rw [← h0]; cases xs <;> simp [rd]
  have el : xs.getLastD 0 = xl := by
    rw [← hl, rd, Int.toNat_natCast]
    cases xs with
    | nil => exact absurd rfl hne
    | cons a l => simp [List.getLastD, List.getLast_eq_getElem]
  rw [cycB, e0, el]
/-- What the first k of them come to. -/
def stepTo (n : Int) (l : List S49) (size d : Nat) (xs : List Int) (x0 xl : Int) (k : Nat) : List (List Int) := ((List.range k).map fun (i : Nat) => x0 + 1 + (i : Int)).flatMap fun v => if joinedB l xl v && !xs.contains v then cycB n l size d (xs ++ [v]) else []
theorem stepTo_succ (n : Int) (l : List S49) (size d : Nat) (xs : List Int) (x0 xl : Int) (k : Nat) : stepTo n l size d xs x0 xl (k + 1) = stepTo n l size d xs x0 xl k ++ (if joinedB l xl (x0 + 1 + (k : Int)) && !xs.contains (x0 + 1 + (k : Int)) then cycB n l size d (xs ++ [x0 + 1 + (k : Int)]) else []) := by
  simp [stepTo, List.range_succ]
theorem stepTo_le (n : Int) (l : List S49) (size d : Nat) (xs : List Int) (x0 xl : Int) (k j : Nat) : stepTo n l size d xs x0 xl k <+: stepTo n l size d xs x0 xl (k + j) := by
  induction j with
  | zero => exact List.prefix_refl _
  | succ j ih => rw [← Nat.add_assoc, stepTo_succ]; exact ih.trans (List.prefix_append _ _)

theorem step_prefix {n : Int} {l : List S49} {size d : Nat} {xs : List Int} {x0 xl : Int} {k K : Nat} {ys zs : List ACyc} {cs : List (List Int)} (hk : k < K) (h1 : ys.map (·.2) = stepTo n l size d xs x0 xl k) (hs : stepTo n l size d xs x0 xl (k + 1) = stepTo n l size d xs x0 xl k ++ cs) (h2 : zs.map (·.2) <+: cs) : (ys ++ zs).map (·.2) <+: stepTo n l size d xs x0 xl K := by
  obtain ⟨j, rfl⟩ : ∃ j, K = k + 1 + j := ⟨K - (k + 1), by omega⟩
  refine List.IsPrefix.trans ?_ (stepTo_le n l size d xs x0 xl (k + 1) j)
  rw [List.map_append, h1, hs]
  exact (List.prefix_append_right_inj _).2 h2
/-- An append in a region, its run being known. -/
theorem appendR {n : Nat} {P : Program} {ops : Array Oper} {Q : Exit → Act → World → Prop} {K : Act → World → Prop} {o : Oper} {a a' : Act} {w w' : World} {s x : Operand} {t : TypeId} {sv xv v' : Value}
    (hw : Region.wanted o (yielded ops a.tmps) = true) (hop : o.op = .call { callee := .builtin .append, args := #[s, x], argTypes := #[t, t] }) (hs : a.eval s = sv) (hx : a.eval x = xv)
    (hrun : (Builtin.append_ #[t, t] o.type #[sv, xv]).run P w = .ok v' w') (ha : a.put o.dst v' = a') (h : K a' w') :
    if Region.wanted o (yielded ops a.tmps) = true then Oper.wpIn Fence.wide n P o a w K Q else (∀ f, o.about P w a.eval = some f → Fence.wide.fn f) ∧ K (a.put o.dst undef) w := by
  rw [if_pos hw]
  subst ha hs hx
  refine ⟨fun f _ => trivial, ?_⟩
  have e : Fence.wide.round = none := rfl
  rw [e, Oper.semAt_none]
  simp [execOp, hop, resolve, invoke, builtin, hrun, Result.andThen]
  exact h
theorem newCell (wr : World) (o : Obj) (y : Int) (j : Nat) (u : Value) (hu : ([Value.int .i64 y] : List Value)[j]? = some u) : (((wr.alloc o).alloc (.cells #[.int .i64 y] 3)).drew).cell? ((⟨wr.heap.size + 1, 0, none⟩ : Addr).add j) = some u := by
  have h := Whole.new (wr.alloc o) 3 #[.int .i64 y]
  have := h.cell 0
  rw [World.size_alloc] at this
  cases j with
  | zero => simp at hu; subst hu; simp [Addr.add, this]
  | succ j => simp at hu
theorem numsCell {B g c k : Nat} {xs : List Int} {W W' : World} (h : CyC B (.slice (some ⟨g, 0, none⟩) k c, xs) W) (hb : Below W.heap.size W W') (j : Nat) (u : Value) (hu : (nums .i64 xs)[j]? = some u) : W'.cell? ((⟨g, 0, none⟩ : Addr).add j) = some u := by
  have hj : j < xs.length := by
    have := (List.getElem?_eq_some_iff.1 hu).1
    simpa [nums] using this
  obtain ⟨g', cap, hv, hc, hg, hgl, hr, hcell⟩ := h.form (by intro e; subst e; simp at hj)
  injection hv with e1 e2 e3
  injection e1 with e1
  injection e1 with e1
  subst e1
  have hx := hcell j hj
  have e : u = .int .i64 (rd xs (j : Int)) := by
    simp [nums, List.getElem?_map, List.getElem?_eq_getElem hj] at hu
    rw [← hu]; simp [rd, List.getElem?_eq_getElem hj]
  rw [e, ← hx]
  have e2 : ((⟨g, 0, none⟩ : Addr).add j) = ⟨g, j, none⟩ := by
    by_cases h0 : j = 0
    · subst h0; simp [Addr.add]
    · simp [Addr.add, h0]
  rw [e2]
  exact hb.cell (p := ⟨g, j, none⟩) hgl
theorem CyC.reads {B g k c : Nat} {xs : List Int} {W : World} (h : CyC B (.slice (some ⟨g, 0, none⟩) k c, xs) W) : Kd.C (Kd.int .i64) W (some ⟨g, 0, none⟩) xs.length xs := by
  obtain ⟨A, c', hv, _, hr⟩ := Kd.R_reads h
  dsimp only at hv hr
  injection hv with e1 e2 e3
  rw [e1]
  exact hr
theorem cyC_of_own {B B' : Nat} {xs : List Int} {y : Int} {v : Value} {W : World} (h : W.ownsRow B' 3 1 v (xs.length + 1) (nums .i64 xs ++ [.int .i64 y])) (hB : B ≤ B') : CyC B (v, xs ++ [y]) W := by
  have e : nums .i64 xs ++ [Value.int .i64 y] = nums .i64 (xs ++ [y]) := by simp [nums]
  rw [e] at h
  refine Kd.R_of_own ?_ (fun _ _ => trivial)
  rw [List.length_append]
  exact own_weaken h hB

set_option maxRecDepth 100000 in
set_option maxHeartbeats 8000000 in
theorem extend_step (n : Int) (A : Option Addr) (c m : Nat) (l : List S49) (size lp b1 b2 b3 b4 B : Nat) (J Jx : List ACyc → World → Prop) (d : Nat) (pre : List ACyc) (v : Value) (xs : List Int) (W : World)
    (h3 : B ≤ b3) (h4 : B ≤ b4) (hn : n ≤ 12) (hsz2 : size ≤ 12) (hne : xs ≠ []) (hxs : xs.length < size) (hhead : 0 ≤ rd xs ((0 : Nat) : Int) ∧ rd xs ((0 : Nat) : Int) < n) (hE : CycEnv n A c m l size lp b1 b2 b3 b4 W) (hR : CyC B (v, xs) W) (hBW : B ≤ W.heap.size) (hA : ∀ s W W', J s W → W.grownBy W' none → J s W')
    (ih : ∀ ys v y W', (∀ zs : List ACyc, zs.map (·.2) <+: cycB n l size d (xs ++ [y]) → (ys ++ zs).map (·.2) <+: cycB n l size (d + 1) xs) → CycEnv n A c m l size lp b1 b2 b3 b4 W' → CyC B (v, xs ++ [y]) W' → B ≤ W'.heap.size → J (pre ++ ys) W' →
      Calls Try.prog 107 #[v, .pointer (some ⟨b1, 0, none⟩), .pointer (some ⟨b2, 0, none⟩), .pointer (some ⟨b3, 0, none⟩), .pointer (some ⟨b4, 0, none⟩)] W' (ExtPost b1 b2 m B J Jx (pre ++ ys) (cycB n l size d (xs ++ [y])) W'))
    (hJ : J pre W) :
    Calls Try.prog 107 #[v, .pointer (some ⟨b1, 0, none⟩), .pointer (some ⟨b2, 0, none⟩), .pointer (some ⟨b3, 0, none⟩), .pointer (some ⟨b4, 0, none⟩)] W (ExtPost b1 b2 m B J Jx pre (cycB n l size (d + 1) xs) W) := by
  obtain ⟨g, cv, hv, hcv, hgB, hgl, hreads, hcells⟩ := hR.form hne
  subst hv
  have hpos : 0 < xs.length := by cases xs with | nil => exact absurd rfl hne | cons a l => simp
  have hl1 := hcells (xs.length - 1) (by omega)
  have hl0 := hcells 0 (by omega)
  have E1 := hE.1.cell 0
  have E2 := hE.2.1.cell 0
  simp only [List.getElem?_toArray, List.getElem?_cons_zero, List.getElem?_cons_succ] at E1 E2
  obtain ⟨x0, hx0⟩ : ∃ x0, rd xs ((0 : Nat) : Int) = x0 := ⟨_, rfl⟩
  obtain ⟨xl, hxl⟩ : ∃ xl, rd xs ((xs.length - 1 : Nat) : Int) = xl := ⟨_, rfl⟩
  rw [hx0] at hl0 hhead
  rw [hxl] at hl1
  have hcyc := cycB_step n l size d xs x0 xl hne hx0 hxl
  obtain ⟨hh0, hhn⟩ := hhead
  obtain ⟨K, hK⟩ : ∃ K : Nat, n = x0 + 1 + K := ⟨(n - (x0 + 1)).toNat, by omega⟩
  have hto : cycB n l size (d + 1) xs = stepTo n l size d xs x0 xl K := by rw [hcyc, show (n - (x0 + 1)).toNat = K by omega]; rfl
  rw [hto]
  have HTO := Lib.hid hto
  clear hcyc hto hx0 hxl
  refine (callsIn_wide (n := 6)).1 ?_
  refine callsIn_of_wp Try.func107 rfl trivial ?_ rfl
  simp only [Try.ntmps107, List.size_toArray, List.length_cons, List.length_nil, Nat.reduceAdd, Nat.reduceSub, Array.replicate_succ, Array.replicate_zero, List.push_toArray, List.append_toArray, List.nil_append, List.cons_append]
  have hmx : Try.prog.follows .mixedOrders = true := by kernel_rfl
  have hne' : ((xs.length : Int) == (size : Int)) = false := by simp; omega
  have HE := Lib.hid hE
  have HR := Lib.hid hR
  have HJ := Lib.hid hJ
  have HA := Lib.hid hA
  have HI := Lib.hid ih
  have HCE := Lib.hid hcells
  have hK1 : n ≤ x0 + 1 + K := by omega
  have hK2 : x0 + 1 + K ≤ n := by omega
  clear hE hR hJ hA ih hreads hcells hK
  gi_wp2
  gi_loopw [8] (fun i wr => ∃ (k : Nat) (ys : List ACyc), k ≤ K ∧ i = .int .i64 (x0 + 1 + k) ∧ Hid (ys.map (·.2) = stepTo n l size d xs x0 xl k) ∧ J (pre ++ ys) wr ∧ KpC b1 b2 m B W wr) (fun i _ => (n - intOf i).toNat)
  case atStart => exact ⟨0, [], Nat.zero_le _, by simp, Lib.hid rfl, by rw [List.append_nil]; exact HJ.out, ⟨Nat.le_refl _, fun _ _ h _ => h⟩⟩
  case round =>
    obtain ⟨k, ys, hk, rfl, HYS, hJr, hKr⟩ := hrel
    have hEr := HE.out.kept hKr h3 h4
    have hRr := HR.out.kept hKr
    have E1 := hEr.1.cell 0
    have E2 := hEr.2.1.cell 0
    have E21 := hEr.2.1.cell 1
    have E22 := hEr.2.1.cell 2
    have E4 := hEr.2.2.2.1.cell 0
    simp only [List.getElem?_toArray, List.getElem?_cons_zero, List.getElem?_cons_succ] at E1 E2 E21 E22 E4
    have hlt1 := hEr.1.lt
    have hlt2 := hEr.2.1.lt
    have hlt4 := hEr.2.2.2.1.lt
    have hBr := Nat.le_trans hBW hKr.1
    have HER := Lib.hid hEr
    have HRR := Lib.hid hRr
    have HJR := Lib.hid hJr
    have HKR := Lib.hid hKr
    clear hEr hRr hJr hKr
    by_cases hlt : k < K
    · have hltI : x0 + 1 + (k : Int) < n := by omega
      obtain ⟨y, hy⟩ : ∃ y, x0 + 1 + (k : Int) = y := ⟨_, rfl⟩
      have hS := stepTo_succ n l size d xs x0 xl k
      rw [hy] at hS hltI ⊢
      have hy2 : x0 + 1 + ((k + 1 : Nat) : Int) = y + 1 := by omega
      have HS := Lib.hid hS
      clear hS
      have hb1 : Below wr.heap.size wr ((wr.alloc (gbox n (.slice A l.length c) m)).drew) := (below_alloc (Below.refl _ _) _).drew
      cases hj : joinedB l xl y
      · have HJN := Lib.hid hj
        clear hj
        gi_wp2
        refine wpIn_region_any (by assumption) ?_
        change wpAnyIn _ _ _ _ _ _ _ _ _ (World.drew _)
        refine takeE (i := 1) (v := ?v1) (a' := ?b1) rfl rfl (by kernel_rfl) (by kernel_rfl) (by kernel_rfl) (fun _ _ _ h => h) ⟨Or.inl ⟨by rfl, ?hy1⟩, fun _ => rfl⟩ ?ha1 ?_
        case hy1 => (intro w; go_simp; try first | with_reducible rfl | omega)
        case ha1 => (go_simp; try with_reducible rfl)
        refine takeE (i := 2) (v := ?v2) (a' := ?b2) rfl rfl (by kernel_rfl) (by kernel_rfl) (by kernel_rfl) (fun _ _ _ h => h) ⟨Or.inl ⟨by rfl, ?hy2⟩, fun _ => rfl⟩ ?ha2 ?_
        case hy2 => (intro w; go_simp; try first | with_reducible rfl | omega)
        case ha2 => (go_simp; try with_reducible rfl)
        refine wpAnyIn_ready (rs := [0]) (by kernel_rfl) (by simp) ?_
        refine AllReadyIn.cons rfl (fun K hK => ?_) AllReadyIn.nil
        go_simp
        refine hK _ _ ?_
        clear hK K
        refine wpAnyIn_ready (rs := [3]) (by kernel_rfl) (by simp) ?_
        refine AllReadyIn.cons rfl (fun K hK => ?_) AllReadyIn.nil
        go_simp
        refine ⟨trivial, (callsIn_wide.2 (joined_any n _ m l xl y _ rfl HER.out.2.2.2.2.drew)).mono ?_⟩
        rintro e w' ⟨he, rfl⟩
        rw [HJN.out] at he
        subst he
        dsimp only
        refine hK _ _ ?_
        clear hK K
        refine takeE (i := 4) (v := .bool false) (a' := ?b3) rfl rfl (by kernel_rfl) (by kernel_rfl) (by kernel_rfl) (fun _ _ _ h => h) ⟨Or.inl ⟨by rfl, ?hy3⟩, fun _ => rfl⟩ ?ha3 ?_
        case hy3 => (intro w; go_simp; try first | with_reducible rfl | omega)
        case ha3 => (go_simp; try with_reducible rfl)
        refine takeE (i := 5) (v := undef) (a' := ?b4) rfl rfl (by kernel_rfl) (by kernel_rfl) (by kernel_rfl) (fun _ _ _ h => h) ⟨Or.inr ⟨by rfl, rfl⟩, fun _ => rfl⟩ ?ha4 ?_
        case ha4 => (go_simp; try with_reducible rfl)
        refine takeE (i := 6) (v := undef) (a' := ?b5) rfl rfl (by kernel_rfl) (by kernel_rfl) (by kernel_rfl) (fun _ _ _ h => h) ⟨Or.inr ⟨by rfl, rfl⟩, fun _ => rfl⟩ ?ha5 ?_
        case ha5 => (go_simp; try with_reducible rfl)
        refine wpAnyIn_ready (rs := [7]) (by kernel_rfl) (by simp) ?_
        refine AllReadyIn.cons rfl (fun K hK => ?_) AllReadyIn.nil
        go_simp
        refine ⟨trivial, ?_⟩
        refine hK _ _ ?_
        clear hK K
        refine takeE (i := 8) (v := undef) (a' := ?b6) rfl rfl (by kernel_rfl) (by kernel_rfl) (by kernel_rfl) (fun _ _ _ h => h) ⟨Or.inr ⟨by rfl, rfl⟩, fun _ => rfl⟩ ?ha6 ?_
        case ha6 => (go_simp; try with_reducible rfl)
        refine takeE (i := 9) (v := .bool false) (a' := ?b7) rfl rfl (by kernel_rfl) (by kernel_rfl) (by kernel_rfl) (fun _ _ _ h => h) ⟨Or.inl ⟨by rfl, ?hy7⟩, fun _ => rfl⟩ ?ha7 ?_
        case hy7 => (intro w; go_simp; try first | with_reducible rfl | omega)
        case ha7 => (go_simp; try with_reducible rfl)
        refine takeE (i := 10) (v := .bool false) (a' := ?b8) rfl rfl (by kernel_rfl) (by kernel_rfl) (by kernel_rfl) (fun _ _ _ h => h) ⟨Or.inl ⟨by rfl, ?hy8⟩, fun _ => rfl⟩ ?ha8 ?_
        case hy8 => (intro w; go_simp; try first | with_reducible rfl | omega)
        case ha8 => (go_simp; try with_reducible rfl)
        refine takeE (i := 11) (v := undef) (a' := ?b9) rfl rfl (by kernel_rfl) (by kernel_rfl) (by kernel_rfl) (fun _ _ _ h => h) ⟨Or.inr ⟨by rfl, rfl⟩, fun _ => rfl⟩ ?ha9 ?_
        case ha9 => (go_simp; try with_reducible rfl)
        refine takeE (i := 12) (v := undef) (a' := ?b10) rfl rfl (by kernel_rfl) (by kernel_rfl) (by kernel_rfl) (fun _ _ _ h => h) ⟨Or.inr ⟨by rfl, rfl⟩, fun _ => rfl⟩ ?ha10 ?_
        case ha10 => (go_simp; try with_reducible rfl)
        refine takeE (i := 13) (v := undef) (a' := ?b11) rfl rfl (by kernel_rfl) (by kernel_rfl) (by kernel_rfl) (fun _ _ _ h => h) ⟨Or.inr ⟨by rfl, rfl⟩, fun _ => rfl⟩ ?ha11 ?_
        case ha11 => (go_simp; try with_reducible rfl)
        refine takeE (i := 14) (v := undef) (a' := ?b12) rfl rfl (by kernel_rfl) (by kernel_rfl) (by kernel_rfl) (fun _ _ _ h => h) ⟨Or.inr ⟨by rfl, rfl⟩, fun _ => rfl⟩ ?ha12 ?_
        case ha12 => (go_simp; try with_reducible rfl)
        refine takeE (i := 15) (v := undef) (a' := ?b13) rfl rfl (by kernel_rfl) (by kernel_rfl) (by kernel_rfl) (fun _ _ _ h => h) ⟨Or.inr ⟨by rfl, rfl⟩, fun _ => rfl⟩ ?ha13 ?_
        case ha13 => (go_simp; try with_reducible rfl)
        refine takeE (i := 16) (v := undef) (a' := ?b14) rfl rfl (by kernel_rfl) (by kernel_rfl) (by kernel_rfl) (fun _ _ _ h => h) ⟨Or.inr ⟨by rfl, rfl⟩, fun _ => rfl⟩ ?ha14 ?_
        case ha14 => (go_simp; try with_reducible rfl)
        refine takeE (i := 17) (v := undef) (a' := ?b15) rfl rfl (by kernel_rfl) (by kernel_rfl) (by kernel_rfl) (fun _ _ _ h => h) ⟨Or.inr ⟨by rfl, rfl⟩, fun _ => rfl⟩ ?ha15 ?_
        case ha15 => (go_simp; try with_reducible rfl)
        refine takeE (i := 18) (v := undef) (a' := ?b16) rfl rfl (by kernel_rfl) (by kernel_rfl) (by kernel_rfl) (fun _ _ _ h => h) ⟨Or.inr ⟨by rfl, rfl⟩, fun _ => rfl⟩ ?ha16 ?_
        case ha16 => (go_simp; try with_reducible rfl)
        refine takeE (i := 19) (v := undef) (a' := ?b17) rfl rfl (by kernel_rfl) (by kernel_rfl) (by kernel_rfl) (fun _ _ _ h => h) ⟨Or.inr ⟨by rfl, rfl⟩, fun _ => rfl⟩ ?ha17 ?_
        case ha17 => (go_simp; try with_reducible rfl)
        refine takeE (i := 20) (v := undef) (a' := ?b18) rfl rfl (by kernel_rfl) (by kernel_rfl) (by kernel_rfl) (fun _ _ _ h => h) ⟨Or.inr ⟨by rfl, rfl⟩, fun _ => rfl⟩ ?ha18 ?_
        case ha18 => (go_simp; try with_reducible rfl)
        refine takeE (i := 21) (v := undef) (a' := ?b19) rfl rfl (by kernel_rfl) (by kernel_rfl) (by kernel_rfl) (fun _ _ _ h => h) ⟨Or.inr ⟨by rfl, rfl⟩, fun _ => rfl⟩ ?ha19 ?_
        case ha19 => (go_simp; try with_reducible rfl)
        refine takeE (i := 22) (v := undef) (a' := ?b20) rfl rfl (by kernel_rfl) (by kernel_rfl) (by kernel_rfl) (fun _ _ _ h => h) ⟨Or.inr ⟨by rfl, rfl⟩, fun _ => rfl⟩ ?ha20 ?_
        case ha20 => (go_simp; try with_reducible rfl)
        refine takeE (i := 23) (v := .bool false) (a' := ?b21) rfl rfl (by kernel_rfl) (by kernel_rfl) (by kernel_rfl) (fun _ _ _ h => h) ⟨Or.inl ⟨by rfl, ?hy21⟩, fun _ => rfl⟩ ?ha21 ?_
        case hy21 => (intro w; go_simp; try first | with_reducible rfl | omega)
        case ha21 => (go_simp; try with_reducible rfl)
        refine wpAnyIn_done (by kernel_rfl) ?_ _
        gi_wp2
        exact ⟨⟨k + 1, ys, by omega, by go_num, Lib.hid (by rw [HYS.out, HS.out, HJN.out]; simp), HA.out _ _ _ HJR.out (grown_of_below hb1 none), KpC_t HKR.out (KpC_below hb1)⟩, by simp [intOf]; omega⟩
      · have HJN := Lib.hid hj
        clear hj
        have HCR := Lib.hid (Kd.C_below HRR.out.reads hb1)
        cases hc : xs.contains y
        · have HCN := Lib.hid hc
          clear hc
          have HCELL := Lib.hid (HRR.out.reads)
          obtain ⟨i0, hi, hz0, hz1, hz2⟩ := info_parts info3
          have hb2 : Below wr.heap.size wr (((wr.alloc (gbox n (.slice A l.length c) m)).alloc (.cells #[.int .i64 y] 3)).drew) := (below_alloc (below_alloc (Below.refl _ _) _) _).drew
          have hcs := fun j u (hu : (nums .i64 xs)[j]? = some u) => numsCell HRR.out hb2 j u hu
          have hnew := fun j u (hu : ([Value.int .i64 y] : List Value)[j]? = some u) => newCell wr (gbox n (.slice A l.length c) m) y j u hu
          obtain ⟨v', w', hrun, hown, hgw⟩ := run_append_arg_grows (P := Try.prog) (((wr.alloc (gbox n (.slice A l.length c) m)).alloc (.cells #[.int .i64 y] 3)).drew) 39 39 3 i0 (.int .i64 0) 1 8 Try.underlying39 hi hz0 hz1 hz2 rfl (by omega) ⟨g, 0, none⟩ xs.length xs.length (nums .i64 xs) (by simp [nums]) hcs ⟨wr.heap.size + 1, 0, none⟩ 1 1 [.int .i64 y] rfl hnew (by omega) (by simp only [maxLen]; omega) (by omega)
          have hb3 : Below wr.heap.size wr w' := hb2.grown hgw hb2.size (fun k e => by cases e)
          have HB3 := Lib.hid hb3
          have HKC := Lib.hid (KpC_below (b1 := b1) (b2 := b2) (m := m) (B := B) hb3)
          have HNEW := Lib.hid (cyC_of_own (B := B) hown (by simp; omega))
          have hcall := HI.out ys v' y w' (fun zs hz => by rw [HTO.out]; exact step_prefix hlt HYS.out (by rw [HS.out, HJN.out, HCN.out]; rfl) hz) (HER.out.kept HKC.out h3 h4) HNEW.out (Nat.le_trans hBr hb3.size) (HA.out _ _ _ HJR.out (grown_of_below hb3 none))
          have HCALL := Lib.hid hcall
          have E4' := (HER.out.kept HKC.out h3 h4).2.2.2.1.cell 0
          simp only [List.getElem?_toArray, List.getElem?_cons_zero, List.getElem?_cons_succ] at E4'
          have HRUN := Lib.hid hrun
          have hw8 := hb3.size
          clear hcs hnew hown hgw hb3 hcall hrun hi hz0 hz1 hz2 hb2 hb1
          gi_wp2
          refine wpIn_region_any (by assumption) ?_
          change wpAnyIn _ _ _ _ _ _ _ _ _ (World.drew _)
          refine takeE (i := 1) (v := ?v43) (a' := ?b43) rfl rfl (by kernel_rfl) (by kernel_rfl) (by kernel_rfl) (fun _ _ _ h => h) ⟨Or.inl ⟨by rfl, ?hy43⟩, fun _ => rfl⟩ ?ha43 ?_
          case hy43 => (intro w; go_simp; try first | with_reducible rfl | omega)
          case ha43 => (go_simp; try with_reducible rfl)
          refine takeE (i := 2) (v := ?v44) (a' := ?b44) rfl rfl (by kernel_rfl) (by kernel_rfl) (by kernel_rfl) (fun _ _ _ h => h) ⟨Or.inl ⟨by rfl, ?hy44⟩, fun _ => rfl⟩ ?ha44 ?_
          case hy44 => (intro w; go_simp; try first | with_reducible rfl | omega)
          case ha44 => (go_simp; try with_reducible rfl)
          refine wpAnyIn_ready (rs := [0]) (by kernel_rfl) (by simp) ?_
          refine AllReadyIn.cons rfl (fun K hK => ?_) AllReadyIn.nil
          go_simp
          refine hK _ _ ?_
          clear hK K
          refine wpAnyIn_ready (rs := [3]) (by kernel_rfl) (by simp) ?_
          refine AllReadyIn.cons rfl (fun K hK => ?_) AllReadyIn.nil
          go_simp
          refine ⟨trivial, (callsIn_wide.2 (joined_any n _ m l xl y _ rfl HER.out.2.2.2.2.drew)).mono ?_⟩
          rintro e w' ⟨he, rfl⟩
          rw [HJN.out] at he
          subst he
          dsimp only
          refine hK _ _ ?_
          clear hK K
          refine takeE (i := 4) (v := .bool true) (a' := ?b45) rfl rfl (by kernel_rfl) (by kernel_rfl) (by kernel_rfl) (fun _ _ _ h => h) ⟨Or.inl ⟨by rfl, ?hy45⟩, fun _ => rfl⟩ ?ha45 ?_
          case hy45 => (intro w; go_simp; try first | with_reducible rfl | omega)
          case ha45 => (go_simp; try with_reducible rfl)
          refine takeE (i := 5) (v := ?v46) (a' := ?b46) rfl rfl (by kernel_rfl) (by kernel_rfl) (by kernel_rfl) (fun _ _ _ h => h) ⟨Or.inl ⟨by rfl, ?hy46⟩, fun _ => rfl⟩ ?ha46 ?_
          case hy46 => (intro w; go_simp; try first | with_reducible rfl | omega)
          case ha46 => (go_simp; try with_reducible rfl)
          refine takeE (i := 6) (v := ?v47) (a' := ?b47) rfl rfl (by kernel_rfl) (by kernel_rfl) (by kernel_rfl) (fun _ _ _ h => h) ⟨Or.inl ⟨by rfl, ?hy47⟩, fun _ => rfl⟩ ?ha47 ?_
          case hy47 => (intro w; go_simp; try first | with_reducible rfl | omega)
          case ha47 => (go_simp; try with_reducible rfl)
          refine wpAnyIn_ready (rs := [7]) (by kernel_rfl) (by simp) ?_
          refine AllReadyIn.cons rfl (fun K hK => ?_) AllReadyIn.nil
          go_simp
          refine ⟨trivial, (callsIn_wide.2 (containsI_any (some ⟨g, 0, none⟩) cv xs y _ (by omega) HCR.out)).mono ?_⟩
          rintro e w' ⟨he, rfl⟩
          rw [HCN.out] at he
          subst he
          dsimp only
          refine hK _ _ ?_
          clear hK K
          refine takeE (i := 8) (v := .bool true) (a' := ?b48) rfl rfl (by kernel_rfl) (by kernel_rfl) (by kernel_rfl) (fun _ _ _ h => h) ⟨Or.inl ⟨by rfl, ?hy48⟩, fun _ => rfl⟩ ?ha48 ?_
          case hy48 => (intro w; go_simp; try first | with_reducible rfl | omega)
          case ha48 => (go_simp; try with_reducible rfl)
          refine takeE (i := 9) (v := .bool true) (a' := ?b49) rfl rfl (by kernel_rfl) (by kernel_rfl) (by kernel_rfl) (fun _ _ _ h => h) ⟨Or.inl ⟨by rfl, ?hy49⟩, fun _ => rfl⟩ ?ha49 ?_
          case hy49 => (intro w; go_simp; try first | with_reducible rfl | omega)
          case ha49 => (go_simp; try with_reducible rfl)
          refine takeE (i := 10) (v := .bool true) (a' := ?b50) rfl rfl (by kernel_rfl) (by kernel_rfl) (by kernel_rfl) (fun _ _ _ h => h) ⟨Or.inl ⟨by rfl, ?hy50⟩, fun _ => rfl⟩ ?ha50 ?_
          case hy50 => (intro w; go_simp; try first | with_reducible rfl | omega)
          case ha50 => (go_simp; try with_reducible rfl)
          refine takeE (i := 12) (v := ?v51) (a' := ?b51) rfl rfl (by kernel_rfl) (by kernel_rfl) (by kernel_rfl) (fun _ _ _ h => h) ⟨Or.inl ⟨by rfl, ?hy51⟩, fun _ => rfl⟩ ?ha51 ?_
          case hy51 => (intro w; go_simp; try first | with_reducible rfl | omega)
          case ha51 => (go_simp; try with_reducible rfl)
          refine takeE (i := 13) (v := ?v52) (a' := ?b52) rfl rfl (by kernel_rfl) (by kernel_rfl) (by kernel_rfl) (fun _ _ _ h => h) ⟨Or.inl ⟨by rfl, ?hy52⟩, fun _ => rfl⟩ ?ha52 ?_
          case hy52 => (intro w; go_simp; try first | with_reducible rfl | omega)
          case ha52 => (go_simp; try with_reducible rfl)
          refine takeE (i := 14) (v := ?v53) (a' := ?b53) rfl rfl (by kernel_rfl) (by kernel_rfl) (by kernel_rfl) (fun _ _ _ h => h) ⟨Or.inl ⟨by rfl, ?hy53⟩, fun _ => rfl⟩ ?ha53 ?_
          case hy53 => (intro w; go_simp; try first | with_reducible rfl | omega)
          case ha53 => (go_simp; try with_reducible rfl)
          refine takeE (i := 15) (v := ?v54) (a' := ?b54) rfl rfl (by kernel_rfl) (by kernel_rfl) (by kernel_rfl) (fun _ _ _ h => h) ⟨Or.inl ⟨by rfl, ?hy54⟩, fun _ => rfl⟩ ?ha54 ?_
          case hy54 => (intro w; go_simp; try first | with_reducible rfl | omega)
          case ha54 => (go_simp; try with_reducible rfl)
          refine takeE (i := 16) (v := ?v55) (a' := ?b55) rfl rfl (by kernel_rfl) (by kernel_rfl) (by kernel_rfl) (fun _ _ _ h => h) ⟨Or.inl ⟨by rfl, ?hy55⟩, fun _ => rfl⟩ ?ha55 ?_
          case hy55 => (intro w; go_simp; try first | with_reducible rfl | omega)
          case ha55 => (go_simp; try with_reducible rfl)
          refine takeE (i := 17) (v := ?v56) (a' := ?b56) rfl rfl (by kernel_rfl) (by kernel_rfl) (by kernel_rfl) (fun _ _ _ h => h) ⟨Or.inl ⟨by rfl, ?hy56⟩, fun _ => rfl⟩ ?ha56 ?_
          case hy56 => (intro w; go_simp; try first | with_reducible rfl | omega)
          case ha56 => (go_simp; try with_reducible rfl)
          refine takeE (i := 18) (v := ?v57) (a' := ?b57) rfl rfl (by kernel_rfl) (by kernel_rfl) (by kernel_rfl) (fun _ _ _ h => h) ⟨Or.inl ⟨by rfl, ?hy57⟩, fun _ => rfl⟩ ?ha57 ?_
          case hy57 => (intro w; go_simp; try first | with_reducible rfl | omega)
          case ha57 => (go_simp; try with_reducible rfl)
          refine wpAnyIn_ready (rs := [11, 19]) (by kernel_rfl) (by simp) ?_
          refine AllReadyIn.cons rfl (fun K hK => ?_) (AllReadyIn.cons rfl (fun K hK => ?_) AllReadyIn.nil)
          · go_simp
            refine hK _ _ ?_
            clear hK K
            refine wpAnyIn_ready (rs := [19]) (by kernel_rfl) (by simp) ?_
            refine AllReadyIn.cons rfl (fun K hK => ?_) AllReadyIn.nil
            go_simp
            refine hK _ _ ?_
            clear hK K
            refine wpAnyIn_ready (rs := [20]) (by kernel_rfl) (by simp) ?_
            refine AllReadyIn.cons rfl (fun K hK => ?_) AllReadyIn.nil
            refine appendR (a' := ?b58) (by rfl) rfl (by first | rfl | simp [go_sem]) (by first | rfl | simp [go_sem]) HRUN.out ?ha58 ?_
            case ha58 => (go_simp; try with_reducible rfl)
            refine hK _ _ ?_
            clear hK K
            refine wpAnyIn_ready (rs := [21]) (by kernel_rfl) (by simp) ?_
            refine AllReadyIn.cons rfl (fun K hK => ?_) AllReadyIn.nil
            go_simp
            refine ⟨trivial, (callsIn_wide.2 HCALL.out).mono ?_⟩
            rintro e w3 (⟨rfl, zs, hzs, hJz, hkz⟩ | ⟨rfl, zs, hzn, hzp, hJz⟩)
            · have HZ := Lib.hid hzs
              have HJZ := Lib.hid hJz
              have HKZ := Lib.hid hkz
              clear hzs hJz hkz
              dsimp only
              refine hK _ _ ?_
              clear hK K
              refine takeE (i := 22) (v := .bool false) (a' := ?b59) rfl rfl (by kernel_rfl) (by kernel_rfl) (by kernel_rfl) (fun _ _ _ h => h) ⟨Or.inl ⟨by rfl, ?hy59⟩, fun _ => rfl⟩ ?ha59 ?_
              case hy59 => (intro w; go_simp; try first | with_reducible rfl | omega)
              case ha59 => (go_simp; try with_reducible rfl)
              refine takeE (i := 23) (v := .bool false) (a' := ?b60) rfl rfl (by kernel_rfl) (by kernel_rfl) (by kernel_rfl) (fun _ _ _ h => h) ⟨Or.inl ⟨by rfl, ?hy60⟩, fun _ => rfl⟩ ?ha60 ?_
              case hy60 => (intro w; go_simp; try first | with_reducible rfl | omega)
              case ha60 => (go_simp; try with_reducible rfl)
              refine wpAnyIn_done (by kernel_rfl) ?_ _
              gi_wp2
              exact ⟨⟨k + 1, ys ++ zs, by omega, by go_num, Lib.hid (by rw [List.map_append, HYS.out, HZ.out, HS.out, HJN.out, HCN.out]; simp), by rw [← List.append_assoc]; exact HJZ.out, KpC_t (KpC_t HKR.out HKC.out) HKZ.out⟩, by simp [intOf]; omega⟩
            · have HZ := Lib.hid hzp
              have HJZ := Lib.hid hJz
              have HZN := Lib.hid hzn
              clear hzp hJz hzn
              dsimp only
              refine hK _ _ ?_
              clear hK K
              refine takeE (i := 22) (v := .bool true) (a' := ?b61) rfl rfl (by kernel_rfl) (by kernel_rfl) (by kernel_rfl) (fun _ _ _ h => h) ⟨Or.inl ⟨by rfl, ?hy61⟩, fun _ => rfl⟩ ?ha61 ?_
              case hy61 => (intro w; go_simp; try first | with_reducible rfl | omega)
              case ha61 => (go_simp; try with_reducible rfl)
              refine takeE (i := 23) (v := .bool true) (a' := ?b62) rfl rfl (by kernel_rfl) (by kernel_rfl) (by kernel_rfl) (fun _ _ _ h => h) ⟨Or.inl ⟨by rfl, ?hy62⟩, fun _ => rfl⟩ ?ha62 ?_
              case hy62 => (intro w; go_simp; try first | with_reducible rfl | omega)
              case ha62 => (go_simp; try with_reducible rfl)
              refine wpAnyIn_done (by kernel_rfl) ?_ _
              gi_wp2
              go_ret
              exact .inr ⟨rfl, ys ++ zs, by intro e; exact HZN.out (List.append_eq_nil_iff.1 e).2, step_prefix hlt HYS.out (by rw [HS.out, HJN.out, HCN.out]; rfl) HZ.out, by rw [← List.append_assoc]; exact HJZ.out⟩
          · go_simp
            refine hK _ _ ?_
            clear hK K
            refine wpAnyIn_ready (rs := [11, 20]) (by kernel_rfl) (by simp) ?_
            refine AllReadyIn.cons rfl (fun K hK => ?_) (AllReadyIn.cons rfl (fun K hK => ?_) AllReadyIn.nil)
            · go_simp
              refine hK _ _ ?_
              clear hK K
              refine wpAnyIn_ready (rs := [20]) (by kernel_rfl) (by simp) ?_
              refine AllReadyIn.cons rfl (fun K hK => ?_) AllReadyIn.nil
              refine appendR (a' := ?b63) (by rfl) rfl (by first | rfl | simp [go_sem]) (by first | rfl | simp [go_sem]) HRUN.out ?ha63 ?_
              case ha63 => (go_simp; try with_reducible rfl)
              refine hK _ _ ?_
              clear hK K
              refine wpAnyIn_ready (rs := [21]) (by kernel_rfl) (by simp) ?_
              refine AllReadyIn.cons rfl (fun K hK => ?_) AllReadyIn.nil
              go_simp
              refine ⟨trivial, (callsIn_wide.2 HCALL.out).mono ?_⟩
              rintro e w3 (⟨rfl, zs, hzs, hJz, hkz⟩ | ⟨rfl, zs, hzn, hzp, hJz⟩)
              · have HZ := Lib.hid hzs
                have HJZ := Lib.hid hJz
                have HKZ := Lib.hid hkz
                clear hzs hJz hkz
                dsimp only
                refine hK _ _ ?_
                clear hK K
                refine takeE (i := 22) (v := .bool false) (a' := ?b64) rfl rfl (by kernel_rfl) (by kernel_rfl) (by kernel_rfl) (fun _ _ _ h => h) ⟨Or.inl ⟨by rfl, ?hy64⟩, fun _ => rfl⟩ ?ha64 ?_
                case hy64 => (intro w; go_simp; try first | with_reducible rfl | omega)
                case ha64 => (go_simp; try with_reducible rfl)
                refine takeE (i := 23) (v := .bool false) (a' := ?b65) rfl rfl (by kernel_rfl) (by kernel_rfl) (by kernel_rfl) (fun _ _ _ h => h) ⟨Or.inl ⟨by rfl, ?hy65⟩, fun _ => rfl⟩ ?ha65 ?_
                case hy65 => (intro w; go_simp; try first | with_reducible rfl | omega)
                case ha65 => (go_simp; try with_reducible rfl)
                refine wpAnyIn_done (by kernel_rfl) ?_ _
                gi_wp2
                exact ⟨⟨k + 1, ys ++ zs, by omega, by go_num, Lib.hid (by rw [List.map_append, HYS.out, HZ.out, HS.out, HJN.out, HCN.out]; simp), by rw [← List.append_assoc]; exact HJZ.out, KpC_t (KpC_t HKR.out HKC.out) HKZ.out⟩, by simp [intOf]; omega⟩
              · have HZ := Lib.hid hzp
                have HJZ := Lib.hid hJz
                have HZN := Lib.hid hzn
                clear hzp hJz hzn
                dsimp only
                refine hK _ _ ?_
                clear hK K
                refine takeE (i := 22) (v := .bool true) (a' := ?b66) rfl rfl (by kernel_rfl) (by kernel_rfl) (by kernel_rfl) (fun _ _ _ h => h) ⟨Or.inl ⟨by rfl, ?hy66⟩, fun _ => rfl⟩ ?ha66 ?_
                case hy66 => (intro w; go_simp; try first | with_reducible rfl | omega)
                case ha66 => (go_simp; try with_reducible rfl)
                refine takeE (i := 23) (v := .bool true) (a' := ?b67) rfl rfl (by kernel_rfl) (by kernel_rfl) (by kernel_rfl) (fun _ _ _ h => h) ⟨Or.inl ⟨by rfl, ?hy67⟩, fun _ => rfl⟩ ?ha67 ?_
                case hy67 => (intro w; go_simp; try first | with_reducible rfl | omega)
                case ha67 => (go_simp; try with_reducible rfl)
                refine wpAnyIn_done (by kernel_rfl) ?_ _
                gi_wp2
                go_ret
                exact .inr ⟨rfl, ys ++ zs, by intro e; exact HZN.out (List.append_eq_nil_iff.1 e).2, step_prefix hlt HYS.out (by rw [HS.out, HJN.out, HCN.out]; rfl) HZ.out, by rw [← List.append_assoc]; exact HJZ.out⟩
            · refine appendR (a' := ?b68) (by rfl) rfl (by first | rfl | simp [go_sem]) (by first | rfl | simp [go_sem]) HRUN.out ?ha68 ?_
              case ha68 => (go_simp; try with_reducible rfl)
              refine hK _ _ ?_
              clear hK K
              refine wpAnyIn_ready (rs := [11]) (by kernel_rfl) (by simp) ?_
              refine AllReadyIn.cons rfl (fun K hK => ?_) AllReadyIn.nil
              go_simp
              refine hK _ _ ?_
              clear hK K
              refine wpAnyIn_ready (rs := [21]) (by kernel_rfl) (by simp) ?_
              refine AllReadyIn.cons rfl (fun K hK => ?_) AllReadyIn.nil
              go_simp
              refine ⟨trivial, (callsIn_wide.2 HCALL.out).mono ?_⟩
              rintro e w3 (⟨rfl, zs, hzs, hJz, hkz⟩ | ⟨rfl, zs, hzn, hzp, hJz⟩)
              · have HZ := Lib.hid hzs
                have HJZ := Lib.hid hJz
                have HKZ := Lib.hid hkz
                clear hzs hJz hkz
                dsimp only
                refine hK _ _ ?_
                clear hK K
                refine takeE (i := 22) (v := .bool false) (a' := ?b69) rfl rfl (by kernel_rfl) (by kernel_rfl) (by kernel_rfl) (fun _ _ _ h => h) ⟨Or.inl ⟨by rfl, ?hy69⟩, fun _ => rfl⟩ ?ha69 ?_
                case hy69 => (intro w; go_simp; try first | with_reducible rfl | omega)
                case ha69 => (go_simp; try with_reducible rfl)
                refine takeE (i := 23) (v := .bool false) (a' := ?b70) rfl rfl (by kernel_rfl) (by kernel_rfl) (by kernel_rfl) (fun _ _ _ h => h) ⟨Or.inl ⟨by rfl, ?hy70⟩, fun _ => rfl⟩ ?ha70 ?_
                case hy70 => (intro w; go_simp; try first | with_reducible rfl | omega)
                case ha70 => (go_simp; try with_reducible rfl)
                refine wpAnyIn_done (by kernel_rfl) ?_ _
                gi_wp2
                exact ⟨⟨k + 1, ys ++ zs, by omega, by go_num, Lib.hid (by rw [List.map_append, HYS.out, HZ.out, HS.out, HJN.out, HCN.out]; simp), by rw [← List.append_assoc]; exact HJZ.out, KpC_t (KpC_t HKR.out HKC.out) HKZ.out⟩, by simp [intOf]; omega⟩
              · have HZ := Lib.hid hzp
                have HJZ := Lib.hid hJz
                have HZN := Lib.hid hzn
                clear hzp hJz hzn
                dsimp only
                refine hK _ _ ?_
                clear hK K
                refine takeE (i := 22) (v := .bool true) (a' := ?b71) rfl rfl (by kernel_rfl) (by kernel_rfl) (by kernel_rfl) (fun _ _ _ h => h) ⟨Or.inl ⟨by rfl, ?hy71⟩, fun _ => rfl⟩ ?ha71 ?_
                case hy71 => (intro w; go_simp; try first | with_reducible rfl | omega)
                case ha71 => (go_simp; try with_reducible rfl)
                refine takeE (i := 23) (v := .bool true) (a' := ?b72) rfl rfl (by kernel_rfl) (by kernel_rfl) (by kernel_rfl) (fun _ _ _ h => h) ⟨Or.inl ⟨by rfl, ?hy72⟩, fun _ => rfl⟩ ?ha72 ?_
                case hy72 => (intro w; go_simp; try first | with_reducible rfl | omega)
                case ha72 => (go_simp; try with_reducible rfl)
                refine wpAnyIn_done (by kernel_rfl) ?_ _
                gi_wp2
                go_ret
                exact .inr ⟨rfl, ys ++ zs, by intro e; exact HZN.out (List.append_eq_nil_iff.1 e).2, step_prefix hlt HYS.out (by rw [HS.out, HJN.out, HCN.out]; rfl) HZ.out, by rw [← List.append_assoc]; exact HJZ.out⟩
        · have HCN := Lib.hid hc
          clear hc
          gi_wp2
          refine wpIn_region_any (by assumption) ?_
          change wpAnyIn _ _ _ _ _ _ _ _ _ (World.drew _)
          refine takeE (i := 1) (v := ?v22) (a' := ?b22) rfl rfl (by kernel_rfl) (by kernel_rfl) (by kernel_rfl) (fun _ _ _ h => h) ⟨Or.inl ⟨by rfl, ?hy22⟩, fun _ => rfl⟩ ?ha22 ?_
          case hy22 => (intro w; go_simp; try first | with_reducible rfl | omega)
          case ha22 => (go_simp; try with_reducible rfl)
          refine takeE (i := 2) (v := ?v23) (a' := ?b23) rfl rfl (by kernel_rfl) (by kernel_rfl) (by kernel_rfl) (fun _ _ _ h => h) ⟨Or.inl ⟨by rfl, ?hy23⟩, fun _ => rfl⟩ ?ha23 ?_
          case hy23 => (intro w; go_simp; try first | with_reducible rfl | omega)
          case ha23 => (go_simp; try with_reducible rfl)
          refine wpAnyIn_ready (rs := [0]) (by kernel_rfl) (by simp) ?_
          refine AllReadyIn.cons rfl (fun K hK => ?_) AllReadyIn.nil
          go_simp
          refine hK _ _ ?_
          clear hK K
          refine wpAnyIn_ready (rs := [3]) (by kernel_rfl) (by simp) ?_
          refine AllReadyIn.cons rfl (fun K hK => ?_) AllReadyIn.nil
          go_simp
          refine ⟨trivial, (callsIn_wide.2 (joined_any n _ m l xl y _ rfl HER.out.2.2.2.2.drew)).mono ?_⟩
          rintro e w' ⟨he, rfl⟩
          rw [HJN.out] at he
          subst he
          dsimp only
          refine hK _ _ ?_
          clear hK K
          refine takeE (i := 4) (v := .bool true) (a' := ?b24) rfl rfl (by kernel_rfl) (by kernel_rfl) (by kernel_rfl) (fun _ _ _ h => h) ⟨Or.inl ⟨by rfl, ?hy24⟩, fun _ => rfl⟩ ?ha24 ?_
          case hy24 => (intro w; go_simp; try first | with_reducible rfl | omega)
          case ha24 => (go_simp; try with_reducible rfl)
          refine takeE (i := 5) (v := ?v25) (a' := ?b25) rfl rfl (by kernel_rfl) (by kernel_rfl) (by kernel_rfl) (fun _ _ _ h => h) ⟨Or.inl ⟨by rfl, ?hy25⟩, fun _ => rfl⟩ ?ha25 ?_
          case hy25 => (intro w; go_simp; try first | with_reducible rfl | omega)
          case ha25 => (go_simp; try with_reducible rfl)
          refine takeE (i := 6) (v := ?v26) (a' := ?b26) rfl rfl (by kernel_rfl) (by kernel_rfl) (by kernel_rfl) (fun _ _ _ h => h) ⟨Or.inl ⟨by rfl, ?hy26⟩, fun _ => rfl⟩ ?ha26 ?_
          case hy26 => (intro w; go_simp; try first | with_reducible rfl | omega)
          case ha26 => (go_simp; try with_reducible rfl)
          refine wpAnyIn_ready (rs := [7]) (by kernel_rfl) (by simp) ?_
          refine AllReadyIn.cons rfl (fun K hK => ?_) AllReadyIn.nil
          go_simp
          refine ⟨trivial, (callsIn_wide.2 (containsI_any (some ⟨g, 0, none⟩) cv xs y _ (by omega) HCR.out)).mono ?_⟩
          rintro e w' ⟨he, rfl⟩
          rw [HCN.out] at he
          subst he
          dsimp only
          refine hK _ _ ?_
          clear hK K
          refine takeE (i := 8) (v := .bool false) (a' := ?b27) rfl rfl (by kernel_rfl) (by kernel_rfl) (by kernel_rfl) (fun _ _ _ h => h) ⟨Or.inl ⟨by rfl, ?hy27⟩, fun _ => rfl⟩ ?ha27 ?_
          case hy27 => (intro w; go_simp; try first | with_reducible rfl | omega)
          case ha27 => (go_simp; try with_reducible rfl)
          refine takeE (i := 9) (v := .bool false) (a' := ?b28) rfl rfl (by kernel_rfl) (by kernel_rfl) (by kernel_rfl) (fun _ _ _ h => h) ⟨Or.inl ⟨by rfl, ?hy28⟩, fun _ => rfl⟩ ?ha28 ?_
          case hy28 => (intro w; go_simp; try first | with_reducible rfl | omega)
          case ha28 => (go_simp; try with_reducible rfl)
          refine takeE (i := 10) (v := .bool false) (a' := ?b29) rfl rfl (by kernel_rfl) (by kernel_rfl) (by kernel_rfl) (fun _ _ _ h => h) ⟨Or.inl ⟨by rfl, ?hy29⟩, fun _ => rfl⟩ ?ha29 ?_
          case hy29 => (intro w; go_simp; try first | with_reducible rfl | omega)
          case ha29 => (go_simp; try with_reducible rfl)
          refine takeE (i := 11) (v := undef) (a' := ?b30) rfl rfl (by kernel_rfl) (by kernel_rfl) (by kernel_rfl) (fun _ _ _ h => h) ⟨Or.inr ⟨by rfl, rfl⟩, fun _ => rfl⟩ ?ha30 ?_
          case ha30 => (go_simp; try with_reducible rfl)
          refine takeE (i := 12) (v := undef) (a' := ?b31) rfl rfl (by kernel_rfl) (by kernel_rfl) (by kernel_rfl) (fun _ _ _ h => h) ⟨Or.inr ⟨by rfl, rfl⟩, fun _ => rfl⟩ ?ha31 ?_
          case ha31 => (go_simp; try with_reducible rfl)
          refine takeE (i := 13) (v := undef) (a' := ?b32) rfl rfl (by kernel_rfl) (by kernel_rfl) (by kernel_rfl) (fun _ _ _ h => h) ⟨Or.inr ⟨by rfl, rfl⟩, fun _ => rfl⟩ ?ha32 ?_
          case ha32 => (go_simp; try with_reducible rfl)
          refine takeE (i := 14) (v := undef) (a' := ?b33) rfl rfl (by kernel_rfl) (by kernel_rfl) (by kernel_rfl) (fun _ _ _ h => h) ⟨Or.inr ⟨by rfl, rfl⟩, fun _ => rfl⟩ ?ha33 ?_
          case ha33 => (go_simp; try with_reducible rfl)
          refine takeE (i := 15) (v := undef) (a' := ?b34) rfl rfl (by kernel_rfl) (by kernel_rfl) (by kernel_rfl) (fun _ _ _ h => h) ⟨Or.inr ⟨by rfl, rfl⟩, fun _ => rfl⟩ ?ha34 ?_
          case ha34 => (go_simp; try with_reducible rfl)
          refine takeE (i := 16) (v := undef) (a' := ?b35) rfl rfl (by kernel_rfl) (by kernel_rfl) (by kernel_rfl) (fun _ _ _ h => h) ⟨Or.inr ⟨by rfl, rfl⟩, fun _ => rfl⟩ ?ha35 ?_
          case ha35 => (go_simp; try with_reducible rfl)
          refine takeE (i := 17) (v := undef) (a' := ?b36) rfl rfl (by kernel_rfl) (by kernel_rfl) (by kernel_rfl) (fun _ _ _ h => h) ⟨Or.inr ⟨by rfl, rfl⟩, fun _ => rfl⟩ ?ha36 ?_
          case ha36 => (go_simp; try with_reducible rfl)
          refine takeE (i := 18) (v := undef) (a' := ?b37) rfl rfl (by kernel_rfl) (by kernel_rfl) (by kernel_rfl) (fun _ _ _ h => h) ⟨Or.inr ⟨by rfl, rfl⟩, fun _ => rfl⟩ ?ha37 ?_
          case ha37 => (go_simp; try with_reducible rfl)
          refine takeE (i := 19) (v := undef) (a' := ?b38) rfl rfl (by kernel_rfl) (by kernel_rfl) (by kernel_rfl) (fun _ _ _ h => h) ⟨Or.inr ⟨by rfl, rfl⟩, fun _ => rfl⟩ ?ha38 ?_
          case ha38 => (go_simp; try with_reducible rfl)
          refine takeE (i := 20) (v := undef) (a' := ?b39) rfl rfl (by kernel_rfl) (by kernel_rfl) (by kernel_rfl) (fun _ _ _ h => h) ⟨Or.inr ⟨by rfl, rfl⟩, fun _ => rfl⟩ ?ha39 ?_
          case ha39 => (go_simp; try with_reducible rfl)
          refine takeE (i := 21) (v := undef) (a' := ?b40) rfl rfl (by kernel_rfl) (by kernel_rfl) (by kernel_rfl) (fun _ _ _ h => h) ⟨Or.inr ⟨by rfl, rfl⟩, fun _ => rfl⟩ ?ha40 ?_
          case ha40 => (go_simp; try with_reducible rfl)
          refine takeE (i := 22) (v := undef) (a' := ?b41) rfl rfl (by kernel_rfl) (by kernel_rfl) (by kernel_rfl) (fun _ _ _ h => h) ⟨Or.inr ⟨by rfl, rfl⟩, fun _ => rfl⟩ ?ha41 ?_
          case ha41 => (go_simp; try with_reducible rfl)
          refine takeE (i := 23) (v := .bool false) (a' := ?b42) rfl rfl (by kernel_rfl) (by kernel_rfl) (by kernel_rfl) (fun _ _ _ h => h) ⟨Or.inl ⟨by rfl, ?hy42⟩, fun _ => rfl⟩ ?ha42 ?_
          case hy42 => (intro w; go_simp; try first | with_reducible rfl | omega)
          case ha42 => (go_simp; try with_reducible rfl)
          refine wpAnyIn_done (by kernel_rfl) ?_ _
          gi_wp2
          exact ⟨⟨k + 1, ys, by omega, by go_num, Lib.hid (by rw [HYS.out, HS.out, HJN.out, HCN.out]; simp), HA.out _ _ _ HJR.out (grown_of_below hb1 none), KpC_t HKR.out (KpC_below hb1)⟩, by simp [intOf]; omega⟩
    · have hltI : ¬ x0 + 1 + (k : Int) < n := by omega
      obtain rfl : k = K := by omega
      gi_wp2
      go_ret
      exact .inl ⟨rfl, ys, HYS.out, HJR.out, HKR.out⟩

end Go.Proofs.Ytkefmlhkejoknaa.L

/- The iterator (graph).cycles: its contract. -/
namespace Go.Proofs.Ytkefmlhkejoknaa.L
set_option linter.unusedVariables false
set_option linter.unusedSimpArgs false
open Go.RowKit Go.Shelf Go.Proofs.YtkefmlhkejoknaaW.PrintWords Go.Proofs.YtkefmlhkejoknaaW.PrintLast
attribute [local go_sem] Oper.semAt_some

theorem yield_any {m : Nat} (m' : Nat) {P : Program} {l : Nat} {args : Array Value} {W : World} {R : Ending → World → Prop} (h : YieldAt Fence.wide m P l args W R) : YieldAt Fence.wide m' P l args W R := by
  obtain ⟨fn, tmps, assign, body, hy, hR⟩ := h
  exact ⟨fn, tmps, assign, body, hy, hR.1, fun c cs _ => hR.2 c cs (fun d h => by cases h)⟩

theorem extend_all (n : Int) (A : Option Addr) (c m : Nat) (l : List S49) (size lp b1 b2 b3 b4 B : Nat) (J Jx : List ACyc → World → Prop) (h3 : B ≤ b3) (h4 : B ≤ b4) (hn : n ≤ 12) (hsz : 3 ≤ size) (hsz2 : size ≤ 12) (hA : ∀ s W W', J s W → W.grownBy W' none → J s W')
    (G : List ACyc → Prop) (hY : ∀ m' pre x W1, G (pre ++ [x]) → J pre W1 → CyC B x W1 → YieldAt Fence.wide m' Try.prog lp #[x.1] W1 fun e W' =>
      (e = .returned (.bool true) ∧ J (pre ++ [x]) W' ∧ KpC b1 b2 m B W1 W') ∨ (e = .returned (.bool false) ∧ Jx (pre ++ [x]) W')) :
    ∀ (d : Nat) (pre : List ACyc) (v : Value) (xs : List Int) (W : World), CycEnv n A c m l size lp b1 b2 b3 b4 W → CyC B (v, xs) W → B ≤ W.heap.size → xs ≠ [] → xs.length + d = size → 0 ≤ rd xs ((0 : Nat) : Int) → rd xs ((0 : Nat) : Int) < n → (∀ zs : List ACyc, zs ≠ [] → zs.map (·.2) <+: cycB n l size d xs → G (pre ++ zs)) → J pre W →
      Calls Try.prog 107 #[v, .pointer (some ⟨b1, 0, none⟩), .pointer (some ⟨b2, 0, none⟩), .pointer (some ⟨b3, 0, none⟩), .pointer (some ⟨b4, 0, none⟩)] W (ExtPost b1 b2 m B J Jx pre (cycB n l size d xs) W) := by
  intro d
  induction d with
  | zero =>
    intro pre v xs W hE hR hB hne hl h0 h1 hG hJ
    refine (callsIn_wide (n := 1)).1 ?_
    rw [cyc0_of n l size xs _ _ _ hl hsz rfl rfl rfl] at hG ⊢
    by_cases hgt : rd xs ((size - 1 : Nat) : Int) < rd xs ((1 : Nat) : Int)
    · rw [decide_eq_true hgt, Bool.true_or, if_pos rfl]
      exact extend_gt n A c m l size lp b1 b2 b3 b4 B J Jx 1 pre v xs W h3 h4 hsz hsz2 hl hE hR hB hA hJ hgt
    · rw [decide_eq_false hgt, Bool.false_or]
      cases hj : joinedB l (rd xs ((0 : Nat) : Int)) (rd xs ((size - 1 : Nat) : Int))
      · exact extend_no n A c m l size lp b1 b2 b3 b4 B J Jx 1 pre v xs W h3 h4 hsz hsz2 hl hE hR hB hA hJ hgt hj
      · refine extend_yes n A c m l size lp b1 b2 b3 b4 B J Jx 1 pre v xs W h3 h4 hsz hsz2 hl hE hR hB hA (fun W1 h5 h6 => hY 0 pre (v, xs) W1 (hG [(v, xs)] (by simp) ?_) h5 h6) hJ hgt hj
        rw [decide_eq_false hgt, Bool.false_or, hj]
        exact List.prefix_refl _
  | succ d ih =>
    intro pre v xs W hE hR hB hne hl h0 h1 hG hJ
    refine extend_step n A c m l size lp b1 b2 b3 b4 B J Jx d pre v xs W h3 h4 hn hsz2 hne (by omega) ⟨h0, h1⟩ hE hR hB hA (fun ys v y W' hP hE' hR' hB' hJ' => ?_) hJ
    have e : rd (xs ++ [y]) ((0 : Nat) : Int) = rd xs ((0 : Nat) : Int) := by
      cases xs with
      | nil => exact absurd rfl hne
      | cons a l => rfl
    refine ih (pre ++ ys) v (xs ++ [y]) W' hE' hR' hB' (by simp) (by rw [List.length_append]; simp; omega) (by rw [e]; exact h0) (by rw [e]; exact h1) (fun zs hzn hz => ?_) hJ'
    rw [List.append_assoc]
    exact hG (ys ++ zs) (by intro e3; exact hzn (List.append_eq_nil_iff.1 e3).2) (hP zs hz)

/-- What the first k vertices come to. -/
def cycTo (n : Int) (l : List S49) (size k : Nat) : List (List Int) := (List.range k).flatMap fun (v : Nat) => cycB n l size (size - 1) [(v : Int)]
theorem cycTo_succ (n : Int) (l : List S49) (size k : Nat) : cycTo n l size (k + 1) = cycTo n l size k ++ cycB n l size (size - 1) [(k : Int)] := by simp [cycTo, List.range_succ]
theorem cycTo_le (n : Int) (l : List S49) (size k j : Nat) : cycTo n l size k <+: cycTo n l size (k + j) := by
  induction j with
  | zero => exact List.prefix_refl _
  | succ j ih => rw [← Nat.add_assoc, cycTo_succ]; exact ih.trans (List.prefix_append _ _)
theorem cyc_prefix {n : Int} {l : List S49} {size k K : Nat} {ys zs : List ACyc} (hk : k < K) (h1 : ys.map (·.2) = cycTo n l size k) (h2 : zs.map (·.2) <+: cycB n l size (size - 1) [(k : Int)]) : (ys ++ zs).map (·.2) <+: cycTo n l size K := by
  obtain ⟨j, rfl⟩ : ∃ j, K = k + 1 + j := ⟨K - (k + 1), by omega⟩
  refine List.IsPrefix.trans ?_ (cycTo_le n l size (k + 1) j)
  rw [List.map_append, h1, cycTo_succ]
  exact (List.prefix_append_right_inj _).2 h2

theorem own_lit' {W : World} {base : Nat} (k : Nat) (hb : base ≤ W.heap.size) : (W.alloc (.cells #[.int .i64 (k : Int)] 3)).ownsRow base 3 1 (.slice (some ⟨W.heap.size, 0, none⟩) 1 1) [(k : Int)].length (encs (Value.int .i64) [(k : Int)]) := by
  have := World.ownsRow_lit (base := base) (e := 3) (size := 1) W #[.int .i64 (k : Int)] 1 hb (by simp [maxLen]) (by simp)
  exact this

set_option maxRecDepth 100000 in
set_option maxHeartbeats 4000000 in
theorem cycles1_gives (d : Nat) (n : Int) (A : Option Addr) (c m : Nat) (l : List S49) (size b1 b2 : Nat) (w : World) (hn : n ≤ 12) (h0 : 1 ≤ n) (hsz : 3 ≤ size) (hsz2 : size ≤ 12)
    (hb1 : Whole w b1 3 #[.int .i64 (size : Int)]) (hb2 : Whole w b2 86 #[.int .i64 n, .slice A l.length c, .map (some m)]) (hM : MapIs w m l) :
    GivesC Fence.wide d Try.prog 106 #[.pointer (some ⟨b1, 0, none⟩), .pointer (some ⟨b2, 0, none⟩)] (fun x : ACyc => #[x.1]) (CyC w.heap.size) (KpC b1 b2 m w.heap.size) (fun ys => ys.map (·.2) = cyclesB n l size) (fun pre => pre ≠ [] ∧ pre.map (·.2) <+: cyclesB n l size) w := by
  intro lp J Jx W hW hJa hJxa hY hJ
  have HJA := Lib.hid (show ∀ s W W', J s W → W.grownBy W' none → J s W' from fun s A B h hg => hJa s A B none h hg (fun r e => by cases e))
  obtain ⟨N, rfl⟩ := Int.eq_ofNat_of_zero_le (show 0 ≤ n by omega)
  have hcy : cyclesB N l size = cycTo N l size N := rfl
  rw [hcy]
  clear hcy
  have c1 := hb1.below hW hb1.lt
  have c2 := hb2.below hW hb2.lt
  have cM := hM.below hW hM.lt
  have hs := hW.size
  have HY := Lib.hid hY
  have HJ := Lib.hid hJ
  clear hY hJ hJa hJxa
  refine callsIn_of_wp Try.func106 rfl trivial ?_ rfl
  simp only [Try.ntmps106, List.size_toArray, List.length_cons, List.length_nil, Nat.reduceAdd, Nat.reduceSub, Array.replicate_succ, Array.replicate_zero, List.push_toArray, List.append_toArray, List.nil_append, List.cons_append]
  have g0 := c2.cell 0
  simp only [List.getElem?_toArray, List.getElem?_cons_zero, List.getElem?_cons_succ] at g0
  have hlt2 := c2.lt
  have C1 := Lib.hid c1
  have C2 := Lib.hid c2
  have CM := Lib.hid cM
  have k4 := Whole.new (W.alloc (.cells #[.func (.yield lp) #[] #[]] 118)) 118 #[.nilFunc]
  rw [World.size_alloc] at k4
  have k40 := k4.cell 0
  have k4f := k4.frozen 0
  simp only [List.getElem?_toArray, List.getElem?_cons_zero, List.getElem?_cons_succ] at k40
  have K4 := Lib.hid k4
  clear c1 c2 cM hb1 hb2 hM k4
  gi_wp2
  have e3' := (Whole.new W 118 #[.func (.yield lp) #[] #[]]).alloc (.cells #[(.func (.func 107) #[] #[.pointer (some ⟨b1, 0, none⟩), .pointer (some ⟨b2, 0, none⟩), .pointer (some ⟨W.heap.size, 0, none⟩), .pointer (some ⟨W.heap.size + 1, 0, none⟩)])] 118)
  have e4 := Whole.new (W.alloc (.cells #[.func (.yield lp) #[] #[]] 118)) 118 #[(.func (.func 107) #[] #[.pointer (some ⟨b1, 0, none⟩), .pointer (some ⟨b2, 0, none⟩), .pointer (some ⟨W.heap.size, 0, none⟩), .pointer (some ⟨W.heap.size + 1, 0, none⟩)])]
  rw [World.size_alloc] at e4
  have hbel := below_alloc (below_alloc (Below.refl W.heap.size W) (.cells #[.func (.yield lp) #[] #[]] 118)) (.cells #[(.func (.func 107) #[] #[.pointer (some ⟨b1, 0, none⟩), .pointer (some ⟨b2, 0, none⟩), .pointer (some ⟨W.heap.size, 0, none⟩), .pointer (some ⟨W.heap.size + 1, 0, none⟩)])] 118)
  have hJ0 := HJA.out _ _ _ HJ.out (grown_of_below hbel none)
  generalize (W.alloc (.cells #[.func (.yield lp) #[] #[]] 118)).alloc (.cells #[(.func (.func 107) #[] #[.pointer (some ⟨b1, 0, none⟩), .pointer (some ⟨b2, 0, none⟩), .pointer (some ⟨W.heap.size, 0, none⟩), .pointer (some ⟨W.heap.size + 1, 0, none⟩)])] 118) = W0 at e3' e4 hbel hJ0 ⊢
  have hE0 : CycEnv N A c m l size lp b1 b2 W.heap.size (W.heap.size + 1) W0 := ⟨C1.out.below hbel C1.out.lt, C2.out.below hbel C2.out.lt, e3', e4, CM.out.below hbel CM.out.lt⟩
  have HE0 := Lib.hid hE0
  have HJ0 := Lib.hid hJ0
  have hs0 := hbel.size
  clear e4 e3' hE0 hJ0 k40 k4f
  gi_loopw [9] (fun i wr => ∃ (k : Nat) (ys : List ACyc), k ≤ N ∧ i = .int .i64 k ∧ Hid (ys.map (·.2) = cycTo N l size k) ∧ J ys wr ∧ KpC b1 b2 m w.heap.size W0 wr) (fun i _ => N - (intOf i).toNat)
  case atStart => exact ⟨0, [], Nat.zero_le _, rfl, Lib.hid rfl, HJ0.out, ⟨Nat.le_refl _, fun _ _ h _ => h⟩⟩
  case round =>
    obtain ⟨k, ys, hk, rfl, HYS, hJr, hKr⟩ := hrel
    have hEr := HE0.out.kept hKr (by omega) (by omega)
    have E4 := hEr.2.2.2.1.cell 0
    simp only [List.getElem?_toArray, List.getElem?_cons_zero, List.getElem?_cons_succ] at E4
    have hlt4 := hEr.2.2.2.1.lt
    have hsr := hKr.1
    have hbn : Below wr.heap.size wr (wr.alloc (.cells #[.int .i64 k] 3)) := below_alloc (Below.refl _ _) _
    by_cases hlt : k < N
    · have hltI : (k : Int) < N := by omega
      have hrow := own_lit' (W := wr) (base := w.heap.size) k (by omega)
      have hnew : CyC w.heap.size (.slice (some ⟨wr.heap.size, 0, none⟩) 1 1, [(k : Int)]) (wr.alloc (.cells #[.int .i64 k] 3)) := Kd.R_of_own hrow (fun _ _ => trivial)
      have hKn := KpC_below (b1 := b1) (b2 := b2) (m := m) (B := w.heap.size) hbn
      have hcall := extend_all N A c m l size lp b1 b2 W.heap.size (W.heap.size + 1) w.heap.size J Jx hs (by omega) hn hsz hsz2 HJA.out (fun s => s ≠ [] ∧ s.map (·.2) <+: cycTo N l size N) (fun m' pre x W1 hg h1 h2 => yield_any m' (HY.out pre x W1 hg h1 h2)) (size - 1) ys _ [(k : Int)] _ (hEr.kept hKn hs (by omega)) hnew (by simp; omega) (by simp) (by simp; omega) (by simp [rd]) (by simp [rd]; omega) (fun zs hzn hz => ⟨by intro e3; exact hzn (List.append_eq_nil_iff.1 e3).2, cyc_prefix hlt HYS.out hz⟩) (HJA.out _ _ _ hJr (grown_of_below hbn none))
      have HCALL := Lib.hid hcall
      have HKR := Lib.hid (KpC_t hKr hKn)
      clear hEr hJr hKr hbn hrow hnew hKn hcall
      gi_wp2_with fail
      refine ⟨trivial, fun h => absurd h (by decide), (callsIn_wide.2 HCALL.out).mono ?_⟩
      rintro e w3 (⟨rfl, zs, hzs, hJz, hkz⟩ | ⟨rfl, zs, hzn, hzp, hJz⟩)
      · have HZ := Lib.hid hzs
        have HJZ := Lib.hid hJz
        have HKZ := Lib.hid hkz
        clear hzs hJz hkz
        gi_wp2
        exact ⟨⟨k + 1, ys ++ zs, by omega, by go_num, Lib.hid (by rw [List.map_append, HYS.out, HZ.out, cycTo_succ]), HJZ.out, KpC_t HKR.out HKZ.out⟩, by simp [intOf]; omega⟩
      · have HZ := Lib.hid hzp
        have HJZ := Lib.hid hJz
        have HZN := Lib.hid hzn
        clear hzp hJz hzn
        gi_wp2
        refine bodyPost_ret (results_none rfl _ _ _) rfl ?_
        exact ⟨⟨_, rfl⟩, .inr ⟨ys ++ zs, ⟨by intro e; exact HZN.out (List.append_eq_nil_iff.1 e).2, cyc_prefix hlt HYS.out HZ.out⟩, HJZ.out⟩⟩
    · obtain rfl : k = N := by omega
      have HJR := Lib.hid hJr
      clear hEr hJr hKr hbn
      gi_wp2
      go_end0
      exact ⟨⟨_, rfl⟩, .inl ⟨ys, HYS.out, HJR.out⟩⟩

set_option maxHeartbeats 1000000 in
theorem cycles_any (n : Int) (ev : Value) (m : Nat) (size : Int) (w : World) (hev : ev.oneCell' = true) :
    Calls Try.prog 76 #[gv n ev m, .int .i64 size] w fun e w' => e = .returned (.func (.func 106) #[] #[.pointer (some ⟨w.heap.size + 1, 0, none⟩), .pointer (some ⟨w.heap.size, 0, none⟩)]) ∧ (w.alloc (gbox n ev m)).alloc (.cells #[.int .i64 size] 3) = w' := by
  go_enter Try.func76, Try.ntmps76
  go_wp2
  go_ret
  exact ⟨rfl, rfl⟩

end Go.Proofs.Ytkefmlhkejoknaa.L

/- Odd comes to what belt_Odd.f says. -/
namespace Go.Proofs.Ytkefmlhkejoknaa.L
set_option linter.unusedVariables false
set_option linter.unusedSimpArgs false
open Go.RowKit Go.Shelf Go.Proofs.YtkefmlhkejoknaaW.PrintWords Go.Proofs.YtkefmlhkejoknaaW.PrintLast
attribute [local go_sem] Oper.semAt_some

theorem wpIn_scope_wide {n : Nat} {P : Program} {c : Code} {Q : Exit → Act → World → Prop} {a : Act} {w : World} (h : c.wpIn Fence.wide n P (Exit.noGoto Q) a w) : (Code.scope c).wpIn Fence.wide n P Q a w := wpIn_wide.2 (wp_scope_straight (wpIn_wide.1 h))

/-- The blocks for deferred calls, one for each loop that has been gone through. -/
def mark (D : Nat) : Deferred := { target := .collected D, args := #[] }
def MarksIn (B : Nat) (Ds : List Nat) (W : World) : Prop := Ds.Nodup ∧ ∀ D ∈ Ds, B ≤ D ∧ W.heap[D]? = some (.deferred (some []))
theorem MarksIn.below {B : Nat} {Ds : List Nat} {W W' : World} (h : MarksIn B Ds W) (hb : Below W.heap.size W W') : MarksIn B Ds W' :=
  ⟨h.1, fun D hD => ⟨(h.2 D hD).1, (hb.block D (Array.getElem?_eq_some_iff.1 (h.2 D hD).2).1).trans (h.2 D hD).2⟩⟩
theorem MarksIn.setCell {B : Nat} {Ds : List Nat} {W : World} (h : MarksIn B Ds W) {p : Addr} (hp : p.block < B) (u : Value) : MarksIn B Ds (W.setCell p u) :=
  ⟨h.1, fun D hD => ⟨(h.2 D hD).1, (Below.heap_setCell W p u D (by have := (h.2 D hD).1; omega)).trans (h.2 D hD).2⟩⟩
theorem MarksIn.own {β : Type} {B B' : Nat} {Ds : List Nat} {W0 : World} (h0 : MarksIn B Ds W0) (hB : W0.heap.size ≤ B') : OwnFrom B' (fun (_ : β) W => MarksIn B Ds W) := by
  intro s X Y row h hg hr
  refine ⟨h.1, fun D hD => ⟨(h.2 D hD).1, (hg.block D (Array.getElem?_eq_some_iff.1 (h.2 D hD).2).1 (fun e => ?_)).trans (h.2 D hD).2⟩⟩
  have h1 := (hr D e.symm).1
  have h2 := (Array.getElem?_eq_some_iff.1 (h0.2 D hD).2).1
  omega
theorem mapIs_own {β : Type} {B' m : Nat} {l : List S49} (hm : m < B') : OwnFrom B' (fun (_ : β) W => MapIs W m l) := by
  intro s X Y row h hg hr
  exact (hg.block m h.lt (fun e => by have := (hr m e.symm).1; omega)).trans h
theorem leaves_marks {fn : Func} {tmps : Array Value} {R : Ending → World → Prop} {w : World} {x : ACyc} {B : Nat} (hB : w.heap.size ≤ B)
    (hend : ∀ W', CyC w.heap.size x W' → Below w.heap.size w W' → LeavesInM Fence.wide 6 Try.prog fn tmps R [] .returning W') :
    ∀ (Ds : List Nat) (W : World), MarksIn B Ds W → CyC w.heap.size x W → Below w.heap.size w W → LeavesInM Fence.wide 6 Try.prog fn tmps R (Ds.map mark) .returning W := by
  intro Ds
  induction Ds with
  | nil => exact fun W _ hC hb => hend W hC hb
  | cons D Ds ih =>
    intro W hM hC hb
    have hD := hM.2 D List.mem_cons_self
    refine ⟨by simp, .inl ⟨D, _, rfl, run_takeDeferred hD.2, ih _ ⟨(List.nodup_cons.1 hM.1).2, fun E hE => ⟨(hM.2 E (List.mem_cons_of_mem _ hE)).1, ?_⟩⟩ ?_ (Below.putObj hb (by omega) _)⟩⟩
    · rw [World.putObj_heap_other (by rintro rfl; exact (List.nodup_cons.1 hM.1).1 hE)]
      exact (hM.2 E (List.mem_cons_of_mem _ hE)).2
    · refine hC.step (fun k o ho _ hc _ => ?_)
      rw [World.putObj_heap_other (by rintro rfl; rw [hD.2] at ho; cases ho; cases hc)]
      exact ho

/-- What holds between two lengths. -/
def OddW (a0 : Int) (A1 : Option Addr) (c1 : Nat) (l1 : List S49) (w : World) (gB oB : Nat) (Ds : List Nat) (v : Value) (W : World) : Prop :=
  (Whole W gB 86 #[.int .i64 a0, .slice A1 l1.length c1, .map (some (w.heap.size + 1))] ∧ Whole W oB 39 #[v]) ∧ MapIs W (w.heap.size + 1) l1 ∧ Below w.heap.size w W ∧ MarksIn (oB + 1) Ds W
theorem OddW.below {a0 : Int} {A1 : Option Addr} {c1 : Nat} {l1 : List S49} {w : World} {gB oB : Nat} {Ds : List Nat} {v : Value} {W W' : World} (h : OddW a0 A1 c1 l1 w gB oB Ds v W) (hb : Below W.heap.size W W') : OddW a0 A1 c1 l1 w gB oB Ds v W' :=
  ⟨⟨h.1.1.below hb h.1.1.lt, h.1.2.below hb h.1.2.lt⟩, h.2.1.below hb h.2.1.lt, below_then h.2.2.1 h.2.2.1.size hb, h.2.2.2.below hb⟩
theorem OddW.own {β : Type} {a0 : Int} {A1 : Option Addr} {c1 : Nat} {l1 : List S49} {w : World} {gB oB : Nat} {Ds : List Nat} {v v0 : Value} {W0 : World} {B' : Nat} (h0 : OddW a0 A1 c1 l1 w gB oB Ds v0 W0) (hB : W0.heap.size ≤ B') : OwnFrom B' (fun (_ : β) W => OddW a0 A1 c1 l1 w gB oB Ds v W) := by
  intro s X Y row h hg hr
  have hm := h0.2.1.lt
  exact ⟨⟨(whole_own (β := Unit) _ _ (fun _ => _)).from B' () X Y row h.1.1 hg hr, (whole_own (β := Unit) _ _ (fun _ => _)).from B' () X Y row h.1.2 hg hr⟩, mapIs_own (β := Unit) (by omega) () X Y row h.2.1 hg hr, ownFrom_below (β := Unit) (Nat.le_refl _) (Nat.le_trans h0.2.2.1.size hB) () X Y row h.2.2.1 hg hr, MarksIn.own (β := Unit) h0.2.2.2 hB () X Y row h.2.2.2 hg hr⟩
theorem OddW.store {a0 : Int} {A1 : Option Addr} {c1 : Nat} {l1 : List S49} {w : World} {gB oB : Nat} {Ds : List Nat} {v v' : Value} {W : World} (h : OddW a0 A1 c1 l1 w gB oB Ds v W) (hne : gB ≠ oB) (hw : w.heap.size ≤ oB) : OddW a0 A1 c1 l1 w gB oB Ds v' (W.setCell ⟨oB, 0, none⟩ v') :=
  ⟨⟨h.1.1.far (by exact hne) _, by have := h.1.2.set 0 v'; simpa using this⟩, h.2.1.setCell _ _, Below.setAt h.2.2.1 hw 0 _, h.2.2.2.setCell (p := ⟨oB, 0, none⟩) (Nat.lt_succ_self _) _⟩

theorem odd_none {n : Int} {l : List S49} {j : Nat} (hj : n < 2 * (j : Int) + 3) (h : ∀ i, i < j → cyclesB n l (2 * i + 3) = []) : ((oddSizes n).flatMap fun k => cyclesB n l k).headD [] = [] := by
  have e : ((oddSizes n).flatMap fun k => cyclesB n l k) = [] := by
    rw [List.flatMap_eq_nil_iff]
    intro k hk
    simp only [oddSizes, List.mem_map, List.mem_range] at hk
    obtain ⟨i, hi, rfl⟩ := hk
    exact h i (by omega)
  rw [e]; rfl
theorem odd_some {n : Int} {l : List S49} {j : Nat} {x : List Int} (hj : 2 * (j : Int) + 3 ≤ n) (h : ∀ i, i < j → cyclesB n l (2 * i + 3) = []) (hx : [x] <+: cyclesB n l (2 * j + 3)) : ((oddSizes n).flatMap fun k => cyclesB n l k).headD [] = x := by
  obtain ⟨t, ht⟩ := hx
  obtain ⟨d, hd⟩ : ∃ d, (n.toNat - 1) / 2 = j + (1 + d) := ⟨(n.toNat - 1) / 2 - j - 1, by omega⟩
  have e1 : ((List.range j).map fun i => 2 * i + 3).flatMap (fun k => cyclesB n l k) = [] := by
    rw [List.flatMap_eq_nil_iff]
    intro k hk
    simp only [List.mem_map, List.mem_range] at hk
    obtain ⟨i, hi, rfl⟩ := hk
    exact h i hi
  have e2 : oddSizes n = ((List.range j).map fun i => 2 * i + 3) ++ (2 * j + 3) :: ((List.range d).map fun i => 2 * (j + 1 + i) + 3) := by
    rw [oddSizes, hd, List.range_add, List.range_add, List.map_append, List.map_map]
    congr 1
    rw [List.map_append, List.map_map]
    simp [Nat.add_assoc]
  rw [e2, List.flatMap_append, e1, List.nil_append, List.flatMap_cons, ← ht]
  rfl

set_option maxRecDepth 100000 in
set_option maxHeartbeats 4000000 in
theorem belt_Odd.calls (a0 : Int) (A1 : Option Addr) (c1 : Nat) (l1 : List S49) (r1 : List Int) (r2 : Int) (w : World) (hr1 : Kd.C k49 w A1 l1.length l1) (hc1 : l1.length ≤ c1) (h : belt_Odd.f a0 l1 = some (r1, r2)) :
    Calls Try.prog 33 #[.int .i64 a0, .slice A1 l1.length c1] w fun e w' => ∃ v0_ : Value, e = .returned (.tuple #[v0_, .int .i64 r2]) ∧ Kd.R (Kd.int .i64) 3 w' w.heap.size (fun _ => True) v0_ r1 ∧ Below w.heap.size w w' := by
  have HC := Lib.hid hr1
  have HF := Lib.hid h
  clear hr1 h
  cases hg : graphOk a0 l1
  · have HG := Lib.hid hg
    clear hg
    go_enter Try.func33, Try.ntmps33
    go_wp2
    go_step3
    go_wp2_with (go_at_call 64; refine (newGraph_any a0 A1 c1 l1 _ HC.out).mono ?_; rintro e w1 ⟨rfl, hb, _⟩; have hg := HG.out)
    rw [Exit.noGoto_ret]
    go_ret2
    have e1 := HF.out
    rw [belt_Odd.f, HG.out] at e1
    simp only [Bool.false_eq_true, if_false, Option.some.injEq, Prod.mk.injEq] at e1
    obtain ⟨rfl, rfl⟩ := e1
    exact ⟨_, rfl, Kd.R_nil _ _ _ _ _, below_alloc hb _⟩
  · obtain ⟨h0, hn⟩ := graphOk_n hg
    have HG := Lib.hid hg
    clear hg
    have e1 := HF.out
    rw [belt_Odd.f, HG.out] at e1
    simp only [if_true, Option.some.injEq] at e1
    cases hv : evenB a0 l1 with
    | some s =>
      rw [hv] at e1
      simp only [Prod.mk.injEq] at e1
      obtain ⟨rfl, rfl⟩ := e1
      have HV := Lib.hid hv
      clear hv
      go_enter Try.func33, Try.ntmps33
      go_wp2
      go_step3
      go_wp2_with (first
        | (go_at_call 64; refine (newGraph_any a0 A1 c1 l1 _ HC.out).mono ?_; rintro e w1 ⟨rfl, hb, hm⟩; have hg := HG.out; have HB1 := Lib.hid hb; clear hm hb)
        | (go_at_call 75; refine (even_yes a0 A1 c1 _ l1 s _ HG.out (Kd.C_alloc (Kd.C_below HC.out HB1.out) _) HV.out).mono ?_; rintro e w2 ⟨rfl, hs4, hb⟩; have HB3 := Lib.hid hb; clear hb))
      rw [Exit.noGoto_ret]
      go_ret2
      have q1 := below_alloc HB1.out (gbox a0 (.slice A1 l1.length c1) (w.heap.size + 1))
      exact ⟨_, rfl, Kd.R_nil _ _ _ _ _, below_then q1 q1.size HB3.out⟩
    | none =>
      rw [hv] at e1
      simp only [Prod.mk.injEq] at e1
      obtain ⟨E1, rfl⟩ := e1
      have HV := Lib.hid hv
      have HO := Lib.hid E1
      clear hv E1
      refine (callsIn_wide (n := 6)).1 ?_
      refine callsIn_of_wp_marks Try.func33 rfl trivial ?_ rfl
      simp only [Try.ntmps33, List.size_toArray, List.length_cons, List.length_nil, Nat.reduceAdd, Nat.reduceSub, Array.replicate_succ, Array.replicate_zero, List.push_toArray, List.append_toArray, List.nil_append, List.cons_append]
      gi_wp2
      refine wpIn_scope_wide ?_
      gi_wp2_with (first
        | (refine ⟨trivial, ?_⟩; gi_at_call 64; refine (callsIn_wide.2 (newGraph_any a0 A1 c1 l1 _ HC.out)).mono ?_; rintro e w1 ⟨rfl, hb, hm⟩; have hg := HG.out; have HB1 := Lib.hid hb; have HM := Lib.hid (hm hg); clear hm hb)
        | (refine ⟨trivial, ?_⟩; gi_at_call 75; refine (callsIn_wide.2 (even_no a0 A1 c1 _ l1 _ HG.out (Kd.C_alloc (Kd.C_below HC.out HB1.out) _) HV.out)).mono ?_; rintro e w2 ⟨⟨s, rfl⟩, hb⟩; have HB3 := Lib.hid hb; clear hb))
      refine wpIn_label ?_
      gi_wp2
      have q1 := below_alloc HB1.out (.cells #[.int .i64 a0, .slice A1 l1.length c1, .map (some (w.heap.size + 1))] 86)
      have q2 := below_then q1 q1.size HB3.out
      have q3 := below_alloc q2 (.cells #[.slice none 0 0] 39)
      have hg1 := ((Whole.new w1 86 #[.int .i64 a0, .slice A1 l1.length c1, .map (some (w.heap.size + 1))]).below HB3.out (by simp)).alloc (.cells #[.slice none 0 0] 39)
      have ho1 := Whole.new w2 39 #[.slice none 0 0]
      have hm1 := ((HM.out.alloc (.cells #[.int .i64 a0, .slice A1 l1.length c1, .map (some (w.heap.size + 1))] 86)).below HB3.out (by have := HM.out.lt; simp; omega)).alloc (.cells #[.slice none 0 0] 39)
      have hlt12 : w1.heap.size < w2.heap.size := by have := HB3.out.size; simp at this; omega
      have hww : w.heap.size ≤ w2.heap.size := q2.size
      have hW0 : OddW a0 A1 c1 l1 w w1.heap.size w2.heap.size [] (.slice none 0 0) (w2.alloc (.cells #[.slice none 0 0] 39)) := ⟨⟨hg1, ho1⟩, hm1, q3, List.nodup_nil, by intro D hD; cases hD⟩
      have HW0 := Lib.hid hW0
      clear q1 q2 q3 hg1 ho1 hm1 hW0
      refine wpIn_loop_ghost_k (fun k a W => ∃ (j : Nat) (Ds : List Nat) (u12 u27 u28 u29 u30 u31 u32 u33 u34 u35 u36 : Value), a = { tmps := #[.int .i64 a0, .slice A1 l1.length c1, undef, undef, .slice none 0 0, .int .i64 0, .pointer (some ⟨w1.heap.size, 0, none⟩), .bool true, .int .u64 (s : Int), .bool false, .pointer (some ⟨w2.heap.size, 0, none⟩), .int .i64 (2 * (j : Int) + 3), u12, .tuple #[gv a0 (.slice A1 l1.length c1) (w.heap.size + 1), .bool true], .int .i64 a0, .slice A1 l1.length c1, .tuple #[gv a0 (.slice A1 l1.length c1) (w.heap.size + 1), .bool true], gv a0 (.slice A1 l1.length c1) (w.heap.size + 1), .bool true, .bool true, .bool false, .tuple #[.int .u64 (s : Int), .bool false], Value.agg #[.int .i64 a0, .slice A1 l1.length c1, .map (some (w.heap.size + 1))], .tuple #[.int .u64 (s : Int), .bool false], .int .u64 (s : Int), .bool false, .bool false, u27, u28, u29, u30, u31, u32, u33, u34, u35, u36, undef], defers := Ds.map mark } ∧ k + j = 20 ∧ (2 * (j : Int) + 3) ≤ a0 + 2 ∧ Hid (∀ i, i < j → cyclesB a0 l1 (2 * i + 3) = []) ∧ OddW a0 A1 c1 l1 w w1.heap.size w2.heap.size Ds (.slice none 0 0) W) 20 ?_ ?_
      · refine ⟨0, [], undef, undef, undef, undef, undef, undef, undef, undef, undef, undef, undef, rfl, rfl, by omega, Lib.hid (by omega), HW0.out⟩
      · rintro k a wr ⟨j, Ds, u12, u27, u28, u29, u30, u31, u32, u33, u34, u35, u36, rfl, hkj, hjn, HNO, hOW⟩ J K hJ hK
        have hJ' := Lib.hid hJ
        have HK := Lib.hid hK
        clear hJ hK
        have g0 := hOW.1.1.cell 0
        have g1 := hOW.1.1.cell 1
        have g2 := hOW.1.1.cell 2
        have o0 := hOW.1.2.cell 0
        simp only [List.getElem?_toArray, List.getElem?_cons_zero, List.getElem?_cons_succ] at g0 g1 g2 o0
        have HOW := Lib.hid hOW
        have hltg := hOW.1.1.lt
        have hlto := hOW.1.2.lt
        clear hOW
        by_cases hle : 2 * (j : Int) + 3 ≤ a0
        · gi_wp2_with (refine ⟨trivial, ?_⟩; gi_at_call 76; refine (callsIn_wide.2 (cycles_any _ _ _ _ _ rfl)).mono ?_; rintro e w' ⟨rfl, rfl⟩)
          have hbx := below_alloc (below_alloc (Below.refl wr.heap.size wr) (gbox a0 (.slice A1 l1.length c1) (w.heap.size + 1))) (.cells #[.int .i64 (2 * (j : Int) + 3)] 3)
          have hO5 := HOW.out.below hbx
          have hG5 := (Whole.new wr 86 #[.int .i64 a0, .slice A1 l1.length c1, .map (some (w.heap.size + 1))]).alloc (.cells #[.int .i64 (2 * (j : Int) + 3)] 3)
          have hS5 := Whole.new (wr.alloc (gbox a0 (.slice A1 l1.length c1) (w.heap.size + 1))) 3 #[.int .i64 (2 * (j : Int) + 3)]
          rw [World.size_alloc] at hS5
          generalize hW5 : (wr.alloc (gbox a0 (.slice A1 l1.length c1) (w.heap.size + 1))).alloc (.cells #[.int .i64 (2 * (j : Int) + 3)] 3) = W5 at hbx hO5 hG5 hS5 ⊢
          have hsz5 : wr.heap.size + 2 = W5.heap.size := by rw [← hW5]; simp
          clear hW5
          have ecast : (2 * (j : Int) + 3) = ((2 * j + 3 : Nat) : Int) := by omega
          have hgives := cycles1_gives 5 a0 A1 c1 (w.heap.size + 1) l1 (2 * j + 3) (wr.heap.size + 1) wr.heap.size W5 hn h0 (by omega) (by omega) (by rw [← ecast]; exact hS5) hG5 hO5.2.1
          have hmm := hO5.2.1.lt
          clear ecast
          have hwo : w.heap.size ≤ w2.heap.size := hww
          refine wpIn_rangeC rfl (by omega) (gf := 106) (lb := #[.pointer (some ⟨wr.heap.size + 1, 0, none⟩), .pointer (some ⟨wr.heap.size, 0, none⟩)]) rfl trivial (enters_of Try.func106 (by kernel_rfl) rfl) hgives (fun h k => KpC_t h k) ?hKb (Below.refl _ _) (fun _ => rfl) (fun x => CyC_own _ _ x)
            (fun pre W => pre = [] ∧ OddW a0 A1 c1 l1 w w1.heap.size w2.heap.size Ds (.slice none 0 0) W)
            (fun co pre W => co = .exit 0 ∧ ∃ x : ACyc, pre = [x] ∧ CyC W5.heap.size x W ∧ OddW a0 A1 c1 l1 w w1.heap.size w2.heap.size Ds x.1 W)
            ?hI ?hIx ⟨rfl, hO5⟩
            ?a1 ?assign ?body ?done ?stop
          case assign =>
            intro lp x W K hK
            gi_wp2
            exact hK
          case hKb =>
            intro W k o o' hk ho hc hw
            refine ⟨by simp, fun q p hp hq => ?_⟩
            rw [World.putObj_heap_other ?_]
            · exact hp
            · rintro rfl
              rw [ho] at hp
              cases hp
              rcases hq with h | h | h | ⟨_, h, _⟩
              · omega
              · omega
              · omega
              · rw [hc] at h; cases h
          case hI => exact OwnFrom.and (ownFrom_pure _ (fun pre : List ACyc => pre = [])) (OddW.own hO5 (Nat.le_refl _))
          case hIx =>
            rintro co pre A B row ⟨h1, x, h2, h3, h4⟩ hgr hr
            exact ⟨h1, x, h2, CyC_own _ _ x () A B row h3 hgr hr, OddW.own (β := Unit) hO5 (Nat.le_refl _) () A B row h4 hgr hr⟩
          case body =>
            rintro lp pre x W hlp _ ⟨rfl, hOW⟩ hcx
            have o0 := hOW.1.2.cell 0
            have of := hOW.1.2.frozen
            simp only [List.getElem?_toArray, List.getElem?_cons_zero, List.getElem?_cons_succ] at o0
            have HOW2 := Lib.hid hOW
            have HCX := Lib.hid hcx
            clear hOW hcx
            obtain ⟨A, c, hv, _⟩ := Kd.R_reads HCX.out
            obtain ⟨xv, xl⟩ := x
            dsimp only at hv
            subst hv
            gi_wp2
            refine ⟨(KeepsOthers.setCell _ _ _).from _, rfl, .slice A xl.length c, xl, by first | rfl | trivial | exact ⟨rfl, rfl⟩, ?_, HOW2.out.store (by omega) (by omega)⟩
            refine HCX.out.step (fun k o ho hk hc _ => ?_)
            exact (Below.heap_setCell _ _ _ k (by show k ≠ w2.heap.size; omega)).trans ho
          case done =>
            rintro D ys W hD hys ⟨rfl, hOW⟩ hK hD2
            have hcyc : cyclesB a0 l1 (2 * j + 3) = [] := hys.symm
            have hM : MarksIn (w2.heap.size + 1) (D :: Ds) W := by
              refine ⟨List.nodup_cons.2 ⟨fun hmem => ?_, hOW.2.2.2.1⟩, fun E hE => ?_⟩
              · have := (Array.getElem?_eq_some_iff.1 (hO5.2.2.2.2 D hmem).2).1
                omega
              · rcases List.mem_cons.1 hE with rfl | hE
                · exact ⟨by omega, hK⟩
                · exact hOW.2.2.2.2 E hE
            have HM2 := Lib.hid hM
            have HOW2 := Lib.hid hOW
            have HN2 := Lib.hid (show ∀ i, i < j + 1 → cyclesB a0 l1 (2 * i + 3) = [] from fun i hi => by
              by_cases e : i = j
              · subst e; exact hcyc
              · exact HNO.out i (by omega))
            clear hys hOW hM hcyc hgives
            gi_wp2
            exact HK.out _ _ ⟨k - 1, by omega, hJ'.out _ _ _ ⟨j + 1, D :: Ds, _, _, _, _, _, _, _, _, _, _, _, by first | rfl | (simp [mark]; omega), by omega, by omega, HN2, ⟨HOW2.out.1, HOW2.out.2.1, HOW2.out.2.2.1, HM2.out⟩⟩⟩
          case stop =>
            rintro D co pre W hD ⟨hne, hpre⟩ ⟨rfl, x, rfl, hcx, hOW⟩ hK hD2
            have HX := Lib.hid (odd_some hle HNO.out hpre)
            have o0 := hOW.1.2.cell 0
            simp only [List.getElem?_toArray, List.getElem?_cons_zero, List.getElem?_cons_succ] at o0
            have hM : MarksIn (w2.heap.size + 1) (D :: Ds) W := by
              refine ⟨List.nodup_cons.2 ⟨fun hmem => ?_, hOW.2.2.2.1⟩, fun E hE => ?_⟩
              · have := (Array.getElem?_eq_some_iff.1 (hO5.2.2.2.2 D hmem).2).1
                omega
              · rcases List.mem_cons.1 hE with rfl | hE
                · exact ⟨by omega, hK⟩
                · exact hOW.2.2.2.2 E hE
            have HM2 := Lib.hid hM
            have HOW2 := Lib.hid hOW
            have HCX := Lib.hid (show CyC w.heap.size x W from Kd.R_lower hcx (by omega))
            clear hpre hcx hOW hM hgives
            gi_wp2

            have hr : r1 = x.2 := by rw [← HO.out]; exact HX.out
            subst hr
            exact leaves_marks (x := x) (B := w2.heap.size + 1) (by omega) (fun W' hC hb => ⟨_, results_tmp2 rfl _ _ _, _, rfl, hC, hb⟩) (D :: Ds) W HM2.out HCX.out HOW2.out.2.2.1
        · gi_wp2
          have hr : r1 = [] := by rw [← HO.out]; exact odd_none (by omega) HNO.out
          subst hr
          exact leaves_marks (x := (.slice none 0 0, [])) (B := w2.heap.size + 1) (by omega) (fun W' hC hb => ⟨_, results_tmp2 rfl _ _ _, _, rfl, hC, hb⟩) Ds wr HOW.out.2.2.2 (Kd.R_nil _ _ _ _ _) HOW.out.2.2.1

end Go.Proofs.Ytkefmlhkejoknaa.L
