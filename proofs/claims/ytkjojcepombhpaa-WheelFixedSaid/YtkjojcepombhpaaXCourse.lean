/- Course comes to what wheel_Course.f says. -/
import Derived.Test.YtkjojcepombhpaaXCycle
import Derived.Test.YtkjojcepombhpaaXRegR
namespace Go.Proofs.Ytkjojcepombhpaa.L
set_option linter.unusedVariables false
set_option linter.unusedSimpArgs false
open Go.RowKit Go.Shelf Go.Maps Go.Proofs.YtkjojcepombhpaaW.PrintWords Go.Proofs.YtkjojcepombhpaaW.PrintLast Go.Proofs.YtkjojcepombhpaaW.PrintMore
attribute [local go_sem] Oper.semAt_some

/-- The course of a number; none: one of its numbers is large. -/
def courseW (m : Int) (t p : List Int) (n : Int) (k : Nat) : Option (List Int) := if (orbTo m t p n k).all smallB then some (remW m t p n k) else none
def wheel_Course.f (m : Int) (t p : List Int) (n k : Int) : Option (List Int × Int) :=
  some (if ruleB m t p && (smallB n && inB k 0 500) then (match courseW m t p n k.toNat with | some l => (l, 0) | none => ([], 5)) else ([], 2))

/-- What a round changes: block b, what lies from C on and is made of cells, new blocks. -/
structure ChgG (C b : Nat) (W W3 : World) : Prop where
  os : W3.os = W.os
  tape : W3.tape = W.tape
  output : W3.output = W.output
  size : W.heap.size ≤ W3.heap.size
  same : ∀ k o, W.heap[k]? = some o → k ≠ b → (k < C ∨ o.isCells = false) → W3.heap[k]? = some o
theorem ChgG.refl (C b : Nat) (W : World) : ChgG C b W W := ⟨rfl, rfl, rfl, Nat.le_refl _, fun _ _ h _ _ => h⟩
theorem ChgG.grow {C b : Nat} {W X Y : World} (h : ChgG C b W X) {row : Option Nat} (hg : X.grownBy Y row) (hr : ∀ r, row = some r → r = b ∨ (∃ o : Obj, X.heap[r]? = some o ∧ o.isCells = true) ∧ C ≤ r) : ChgG C b W Y :=
  ⟨hg.os.trans h.os, hg.tape.trans h.tape, hg.output.trans h.output, Nat.le_trans h.size hg.size, fun k o ho h1 h3 => by
    have hx := h.same k o ho h1 h3
    refine (hg.block k (Array.getElem?_eq_some_iff.1 hx).1 (fun e => ?_)).trans hx
    rcases hr k e.symm with e2 | ⟨⟨o', ho', hc⟩, hle⟩
    · exact h1 e2
    · rw [hx] at ho'
      cases ho'
      rcases h3 with h3 | h3
      · omega
      · rw [hc] at h3; cases h3⟩
theorem ChgG.keeps {C b B : Nat} {W W3 : World} (h : ChgG C b W W3) (hB : b < B) : KeepsFrom B W W3 := ⟨h.size, fun k o hk ho hc => h.same k o ho (by omega) (.inr hc)⟩
theorem ChgG.kp {C b n₀ b1 b2 : Nat} {W W3 : World} (h : ChgG C b W W3) (hn : n₀ ≤ b) (hn2 : n₀ ≤ C) (h1 : b1 ≠ b) (h1' : b1 < C) (h2 : b2 ≠ b) (h2' : b2 < C) (hs : C ≤ W.heap.size) : KpG n₀ b1 b2 W W3 := by
  refine ⟨⟨h.os, h.tape, h.output, h.size, fun k hk => ?_⟩, fun k hk o ho _ => h.same k o ho (by omega) (.inl (by omega))⟩
  have hlt : k < W.heap.size := by omega
  rw [Array.getElem?_eq_getElem hlt]
  exact h.same k _ (Array.getElem?_eq_getElem hlt) (by omega) (.inl (by omega))
theorem RowIs.chgG {W : World} {C b : Nat} {v : Value} {xs : List Int} (h : RowIs W C v xs) : ∀ r, v.ownBlock = some r → r = b ∨ (∃ o : Obj, W.heap[r]? = some o ∧ o.isCells = true) ∧ C ≤ r := fun r e => .inr ⟨(h.block e).2.2, (h.block e).1⟩

/-- One number more behind a row: the run. -/
theorem run_appendI (w : World) (B : Nat) (v : Value) (xs : List Int) (hown : RowIs w B v xs) (g : Nat) (y : Int) (hc : w.cell? ⟨g, 0, none⟩ = some (.int .i64 y)) (hl : xs.length < 100000) (hB : B ≤ w.heap.size) :
    ∃ v' w', (Builtin.append_ #[22, 22] 22 #[v, .slice (some ⟨g, 0, none⟩) 1 1]).run Try.prog w = .ok v' w' ∧ RowIs w' B v' (xs ++ [y]) ∧ w.grownBy w' v.ownBlock ∧ (v'.ownBlock = v.ownBlock ∨ v'.ownBlock = some w.heap.size) := by
  obtain ⟨i3, hi3, hz3, hs3, hb3⟩ := info_parts info3
  obtain ⟨v', w', hrun, h1, h2, _, h4⟩ := run_append_own_at (P := Try.prog) (w := w) B 22 22 3 i3 (.int .i64 0) 1 8 Try.underlying22 hi3 hz3 hs3 hb3 rfl (by decide) v xs.length (encs (Value.int .i64) xs) hown ⟨g, 0, none⟩ 1 1 [.int .i64 y] rfl
    (fun j u hu => by
      cases j with
      | zero => simp at hu; subst hu; simpa [Addr.add] using hc
      | succ j => simp at hu) (by simp [Value.oneCell']) (by unfold maxLen; omega) (by omega) hB
  refine ⟨v', w', hrun, ?_, h2, h4⟩
  unfold RowIs
  rw [List.length_append]
  have e : encs (Value.int .i64) (xs ++ [y]) = encs (Value.int .i64) xs ++ [Value.int .i64 y] := by simp [encs]
  rw [e]
  exact h1

/-- What holds within a round. -/
def CoV (w : World) (R : Nat) (k m : Int) (tv pv rv1 rv2 v0 v : Value) (xs : List Int) (W : World) : Prop :=
  (Whole W (w.heap.size + 1) 3 #[.int .i64 k] ∧ Whole W (w.heap.size + 1 + 1) 22 #[rv1] ∧ Whole W (w.heap.size + 1 + 1 + 1) 26 #[rv2] ∧ Whole W R 75 #[.int .i64 m, tv, pv] ∧ Whole W (R + 1) 22 #[v0]) ∧
  RowIs W (R + 1 + 1 + 1 + 1) v xs ∧ Below w.heap.size w W ∧ R + 1 + 1 + 1 + 1 ≤ W.heap.size ∧ w.heap.size + 1 + 1 + 1 < R
section
variable {w : World} {R : Nat} {k m : Int} {tv pv rv1 rv2 v0 v : Value} {xs : List Int} {X Y : World} {row : Option Nat} {B : Nat}
theorem CoV.own (h : CoV w R k m tv pv rv1 rv2 v0 v xs X) (hg : X.grownBy Y row) (hB : R + 1 + 1 + 1 + 1 ≤ B) (hr : ∀ r, row = some r → B ≤ r ∧ ∃ o : Obj, X.heap[r]? = some o ∧ o.isCells = false) : CoV w R k m tv pv rv1 rv2 v0 v xs Y := by
  obtain ⟨⟨h1, h2, h3, h4, h6⟩, h5, h8, h9, hA⟩ := h
  have hr2 := fun r e => (hr r e).2
  exact ⟨⟨whole_own (β := Unit) _ _ (fun _ => _) () X Y row h1 hg hr2, whole_own (β := Unit) _ _ (fun _ => _) () X Y row h2 hg hr2, whole_own (β := Unit) _ _ (fun _ => _) () X Y row h3 hg hr2,
    whole_own (β := Unit) _ _ (fun _ => _) () X Y row h4 hg hr2, whole_own (β := Unit) _ _ (fun _ => _) () X Y row h6 hg hr2⟩, h5.own hg hr2,
    ownFrom_below (β := Unit) (Nat.le_refl _) (by omega) () X Y row h8 hg hr, Nat.le_trans h9 hg.size, hA⟩
/-- The iterator's own writes. -/
theorem CoV.other {q : Nat} (h : CoV w R k m tv pv rv1 rv2 v0 v xs X) (hg : X.grownBy Y (some q)) (hq : q = R + 1 + 1 + 1) : CoV w R k m tv pv rv1 rv2 v0 v xs Y := by
  obtain ⟨⟨h1, h2, h3, h4, h6⟩, h5, h8, h9, hA⟩ := h
  subst hq
  exact ⟨⟨h1.grown hg (fun e => by injection e with e; omega), h2.grown hg (fun e => by injection e with e; omega), h3.grown hg (fun e => by injection e with e; omega), h4.grown hg (fun e => by injection e with e; omega), h6.grown hg (fun e => by injection e with e; omega)⟩, h5.far hg (by omega), h8.grown hg h8.size (fun k e => by injection e with e; omega), Nat.le_trans h9 hg.size, hA⟩
/-- Another world in which nothing has turned. -/
theorem CoV.below (h : CoV w R k m tv pv rv1 rv2 v0 v xs X) (hb : Below X.heap.size X Y) : CoV w R k m tv pv rv1 rv2 v0 v xs Y :=
  h.own (grown_of_below hb none) (B := X.heap.size) h.2.2.2.1 (fun r e => by cases e)
/-- One number more behind the row. -/
theorem CoV.append {v' : Value} {ys : List Int} (h : CoV w R k m tv pv rv1 rv2 v0 v xs X) (hg : X.grownBy Y v.ownBlock) (hrow : RowIs Y (R + 1 + 1 + 1 + 1) v' ys) : CoV w R k m tv pv rv1 rv2 v0 v' ys Y := by
  obtain ⟨⟨h1, h2, h3, h4, h6⟩, h5, h8, h9, hA⟩ := h
  refine ⟨⟨h1.grown hg (h5.ne (by omega)), h2.grown hg (h5.ne (by omega)), h3.grown hg (h5.ne (by omega)), h4.grown hg (h5.ne (by omega)), h6.grown hg (h5.ne (by omega))⟩, hrow, h8.grown hg h8.size (fun k e => by have := (h5.block e).1; omega), ?_, hA⟩
  have := hg.size
  omega
/-- The row into its box. -/
theorem CoV.store (h : CoV w R k m tv pv rv1 rv2 v0 v xs X) : CoV w R k m tv pv rv1 rv2 v v xs (X.setCell ⟨R + 1, 0, none⟩ v) := by
  obtain ⟨⟨h1, h2, h3, h4, h6⟩, h5, h8, h9, hA⟩ := h
  have hg := setCell_grown X (R + 1) 0 v
  exact ⟨⟨h1.grown hg (fun e => by injection e with e; omega), h2.grown hg (fun e => by injection e with e; omega), h3.grown hg (fun e => by injection e with e; omega), h4.grown hg (fun e => by injection e with e; omega), by have := h6.set 0 v; simpa using this⟩, h5.far hg (by omega), h8.grown hg h8.size (fun k e => by injection e with e; omega), Nat.le_trans h9 hg.size, hA⟩
/-- The results. -/
theorem CoV.done {u1 u2 : Value} (h : CoV w R k m tv pv rv1 rv2 v0 v xs X) : CoV w R k m tv pv u1 u2 v0 v xs ((X.setCell ⟨w.heap.size + 1 + 1, 0, none⟩ u1).setCell ⟨w.heap.size + 1 + 1 + 1, 0, none⟩ u2) := by
  obtain ⟨⟨h1, h2, h3, h4, h6⟩, h5, h8, h9, hA⟩ := h
  have hg := setCell_grown X (w.heap.size + 1 + 1) 0 u1
  have hg2 := setCell_grown (X.setCell ⟨w.heap.size + 1 + 1, 0, none⟩ u1) (w.heap.size + 1 + 1 + 1) 0 u2
  exact ⟨⟨(h1.grown hg (fun e => by injection e with e; omega)).grown hg2 (fun e => by injection e with e; omega), by have := h2.set 0 u1; exact (show Whole _ _ 22 #[u1] by simpa using this).grown hg2 (fun e => by injection e with e; omega), by have := (h3.grown hg (fun e => by injection e with e; omega)).set 0 u2; simpa using this, (h4.grown hg (fun e => by injection e with e; omega)).grown hg2 (fun e => by injection e with e; omega), (h6.grown hg (fun e => by injection e with e; omega)).grown hg2 (fun e => by injection e with e; omega)⟩, (h5.far hg (by omega)).far hg2 (by omega), Below.setAt (Below.setAt h8 (by omega) 0 _) (by omega) 0 _, Nat.le_trans h9 (Nat.le_trans hg.size hg2.size), hA⟩
/-- What a walk reads. -/
theorem CoV.facts (h : CoV w R k m tv pv rv1 rv2 v0 v xs X) :
    X.cell? ⟨w.heap.size + 1, 0, none⟩ = some (.int .i64 k) ∧ (X.cell? ⟨w.heap.size + 1 + 1, 0, none⟩ = some rv1 ∧ X.frozen? ⟨w.heap.size + 1 + 1, 0, none⟩ = false) ∧ (X.cell? ⟨w.heap.size + 1 + 1 + 1, 0, none⟩ = some rv2 ∧ X.frozen? ⟨w.heap.size + 1 + 1 + 1, 0, none⟩ = false) ∧
    (X.cell? ⟨R, 0, none⟩ = some (.int .i64 m) ∧ X.cell? ⟨R, 1, none⟩ = some tv ∧ X.cell? ⟨R, 2, none⟩ = some pv) ∧ (X.cell? ⟨R + 1, 0, none⟩ = some v0 ∧ X.frozen? ⟨R + 1, 0, none⟩ = false) ∧ R + 1 + 1 + 1 + 1 ≤ X.heap.size ∧ w.heap.size + 1 + 1 + 1 < R := by
  obtain ⟨⟨h1, h2, h3, h4, h6⟩, h5, h8, h9, hA⟩ := h
  exact ⟨h1.one.1, ⟨h2.one.1, h2.one.2.1⟩, ⟨h3.one.1, h3.one.2.1⟩, ⟨h4.cell 0, h4.cell 1, h4.cell 2⟩, ⟨h6.one.1, h6.one.2.1⟩, h9, hA⟩
end

set_option maxHeartbeats 2000000 in
theorem course_bad (m : Int) (A1 : Option Addr) (c1 : Nat) (t : List Int) (A2 : Option Addr) (c2 : Nat) (p : List Int) (n steps : Int) (w : World) (h1 : Kd.C (Kd.int .i64) w A1 t.length t) (h2 : Kd.C (Kd.int .i64) w A2 p.length p) (hb : (ruleB m t p && (smallB n && inB steps 0 500)) = false) :
    Calls Try.prog 42 #[.agg #[.int .i64 m, .slice A1 t.length c1, .slice A2 p.length c2], .int .i64 n, .int .i64 steps] w fun e w' => e = .returned (.tuple #[.slice none 0 0, .int .i64 2]) ∧ Below w.heap.size w w' := by
  have B0 : Below w.heap.size w ((((w.alloc (rbox24 m (.slice A1 t.length c1) (.slice A2 p.length c2))).alloc (.cells #[.int .i64 steps] 3)).alloc (.cells #[.slice none 0 0] 22)).alloc (.cells #[.int .i64 0] 26)) := below_alloc (below_alloc (below_alloc (below_alloc (Below.refl _ _) _) _) _) _
  have HA := Lib.hid h1
  have HB := Lib.hid h2
  clear h1 h2
  have HN := Lib.hid (newRule_any m A1 A2 c1 c2 t p _ (Kd.C_below HA.out B0) (Kd.C_below HB.out B0))
  clear B0
  cases hq : ruleB m t p
  · rw [hq] at HN
    clear hb hq
    go_enter Try.func42, Try.ntmps42
    go_wp2_with (go_at_call 58; refine HN.out.mono ?_; rintro e w1 ⟨rfl, hb⟩; obtain ⟨_, f1, f2, f3, hlt, hbw⟩ := four_at hb; obtain ⟨x1, _, _⟩ := f1.one; obtain ⟨x2, y2, _⟩ := f2.one; obtain ⟨x3, y3, _⟩ := f3.one; have F2 := Lib.hid f2; have F3 := Lib.hid f3; have HBW := Lib.hid hbw; clear hb f1 f2 f3 hbw)
    have k2 := (((F2.out.set 0 (.slice none 0 0)).far (p := ⟨w.heap.size + 1 + 1 + 1, 0, none⟩) (by simp) (.int .i64 2)).alloc (rbox m (.slice A1 t.length c1) (.slice A2 p.length c2))).cell 0; have k3 := (((F3.out.far (p := ⟨w.heap.size + 1 + 1, 0, none⟩) (by simp) (.slice none 0 0)).set 0 (.int .i64 2)).alloc (rbox m (.slice A1 t.length c1) (.slice A2 p.length c2))).cell 0; exact bodyPost_ret (results_cc rfl _ _ rfl rfl k2 k3) rfl ⟨rfl, below_alloc (Below.setAt (Below.setAt HBW.out (by omega) 0 _) (by omega) 0 _) _⟩
  · rw [hq] at HN hb
    clear hq
    cases hs : smallB n
    · clear hb
      go_enter Try.func42, Try.ntmps42
      go_wp2_with (first
        | (go_at_call 58; refine HN.out.mono ?_; rintro e w1 ⟨rfl, hb⟩; obtain ⟨_, f1, f2, f3, hlt, hbw⟩ := four_at hb; obtain ⟨x1, _, _⟩ := f1.one; obtain ⟨x2, y2, _⟩ := f2.one; obtain ⟨x3, y3, _⟩ := f3.one; have F2 := Lib.hid f2; have F3 := Lib.hid f3; have HBW := Lib.hid hbw; clear hb f1 f2 f3 hbw)
        | (go_at_call 59; refine (small_any _ _).mono ?_; rintro e w2 ⟨rfl, rfl⟩))
      have k2 := (((F2.out.set 0 (.slice none 0 0)).far (p := ⟨w.heap.size + 1 + 1 + 1, 0, none⟩) (by simp) (.int .i64 2)).alloc (rbox m (.slice A1 t.length c1) (.slice A2 p.length c2))).cell 0; have k3 := (((F3.out.far (p := ⟨w.heap.size + 1 + 1, 0, none⟩) (by simp) (.slice none 0 0)).set 0 (.int .i64 2)).alloc (rbox m (.slice A1 t.length c1) (.slice A2 p.length c2))).cell 0; exact bodyPost_ret (results_cc rfl _ _ rfl rfl k2 k3) rfl ⟨rfl, below_alloc (Below.setAt (Below.setAt HBW.out (by omega) 0 _) (by omega) 0 _) _⟩
    · have hi : inB steps 0 500 = false := by rw [hs] at hb; simpa using hb
      clear hb
      go_enter Try.func42, Try.ntmps42
      go_wp2_with (first
        | (go_at_call 58; refine HN.out.mono ?_; rintro e w1 ⟨rfl, hb⟩; obtain ⟨_, f1, f2, f3, hlt, hbw⟩ := four_at hb; obtain ⟨x1, _, _⟩ := f1.one; obtain ⟨x2, y2, _⟩ := f2.one; obtain ⟨x3, y3, _⟩ := f3.one; have F2 := Lib.hid f2; have F3 := Lib.hid f3; have HBW := Lib.hid hbw; clear hb f1 f2 f3 hbw)
        | (go_at_call 59; refine (small_any _ _).mono ?_; rintro e w2 ⟨rfl, rfl⟩)
        | (go_at_call 60; refine (within_any _ _ _ _).mono ?_; rintro e w2 ⟨rfl, rfl⟩))
      have k2 := (((F2.out.set 0 (.slice none 0 0)).far (p := ⟨w.heap.size + 1 + 1 + 1, 0, none⟩) (by simp) (.int .i64 2)).alloc (rbox m (.slice A1 t.length c1) (.slice A2 p.length c2))).cell 0; have k3 := (((F3.out.far (p := ⟨w.heap.size + 1 + 1, 0, none⟩) (by simp) (.slice none 0 0)).set 0 (.int .i64 2)).alloc (rbox m (.slice A1 t.length c1) (.slice A2 p.length c2))).cell 0; exact bodyPost_ret (results_cc rfl _ _ rfl rfl k2 k3) rfl ⟨rfl, below_alloc (Below.setAt (Below.setAt HBW.out (by omega) 0 _) (by omega) 0 _) _⟩

set_option maxRecDepth 100000 in
set_option maxHeartbeats 8000000 in
theorem course_ok (m : Int) (A1 : Option Addr) (c1 : Nat) (t : List Int) (A2 : Option Addr) (c2 : Nat) (p : List Int) (n : Int) (K : Nat) (w : World) (h1 : Kd.C (Kd.int .i64) w A1 t.length t) (h2 : Kd.C (Kd.int .i64) w A2 p.length p) (hR : ruleB m t p = true) (hn : smallB n = true) (hsteps : inB K 0 500 = true) (res : Option (List Int)) (hres : courseW m t p n K = res) (cd : Int) (hcd : (if res.isSome then 0 else 5) = cd) :
    Calls Try.prog 42 #[.agg #[.int .i64 m, .slice A1 t.length c1, .slice A2 p.length c2], .int .i64 n, .int .i64 K] w fun e w' => ∃ v0_ : Value, e = .returned (.tuple #[v0_, .int .i64 cd]) ∧ Kd.R (Kd.int .i64) 3 w' w.heap.size (fun _ => True) v0_ (res.getD []) ∧ Below w.heap.size w w' := by
  have HRES := Lib.hid hres
  have HCD := Lib.hid hcd
  clear hres hcd
  have hst : K ≤ 500 := by simp [inB] at hsteps; omega
  have HA := Lib.hid h1
  have HB := Lib.hid h2
  have hRU := ruleB_is hR
  have hm := hRU.m2
  have hm6 := hRU.m6
  have HRU := Lib.hid hRU
  have B0 : Below w.heap.size w ((((w.alloc (rbox24 m (.slice A1 t.length c1) (.slice A2 p.length c2))).alloc (.cells #[.int .i64 K] 3)).alloc (.cells #[.slice none 0 0] 22)).alloc (.cells #[.int .i64 0] 26)) := below_alloc (below_alloc (below_alloc (below_alloc (Below.refl _ _) _) _) _) _
  have HN := Lib.hid (newRule_any m A1 A2 c1 c2 t p _ (Kd.C_below h1 B0) (Kd.C_below h2 B0))
  rw [hR] at HN
  clear h1 h2 hR B0 hRU
  refine (callsIn_wide (n := 6)).1 ?_
  refine callsIn_of_wp_marks Try.func42 rfl trivial ?_ rfl
  simp only [Try.ntmps42, List.size_toArray, List.length_cons, List.length_nil, Nat.reduceAdd, Nat.reduceSub, Array.replicate_succ, Array.replicate_zero, List.push_toArray, List.append_toArray, List.nil_append, List.cons_append]
  gi_wp2_with (first
    | (refine ⟨trivial, ?_⟩; gi_at_call 58; refine (callsIn_wide.2 HN.out).mono ?_; rintro e w1 ⟨rfl, hb⟩; obtain ⟨_, f1, f2, f3, hlt, hbw⟩ := four_at hb; obtain ⟨x1, _, _⟩ := f1.one; have F1 := Lib.hid f1; have F2 := Lib.hid f2; have F3 := Lib.hid f3; have HBW := Lib.hid hbw; clear hb f1 f2 f3 hbw)
    | (refine ⟨trivial, ?_⟩; gi_at_call 59; refine (callsIn_wide.2 (small_any _ _)).mono ?_; rintro e w2 ⟨rfl, rfl⟩)
    | (refine ⟨trivial, ?_⟩; gi_at_call 60; refine (callsIn_wide.2 (within_any _ _ _ _)).mono ?_; rintro e w2 ⟨rfl, rfl⟩)
    | (refine ⟨trivial, ?_⟩; gi_at_call 61; refine (callsIn_wide.2 (orbit_any m (.slice A1 t.length c1) (.slice A2 p.length c2) n _ rfl rfl)).mono ?_; rintro e w2 ⟨rfl, rfl⟩))
  obtain ⟨W0, hW0⟩ : ∃ W0, W0 = laid w1 [rbox m (.slice A1 t.length c1) (.slice A2 p.length c2), .cells #[.slice none 0 0] 22, rbox m (.slice A1 t.length c1) (.slice A2 p.length c2), .cells #[.int .i64 n] 3] := ⟨_, rfl⟩
  have hat := laid_at [rbox m (.slice A1 t.length c1) (.slice A2 p.length c2), .cells #[.slice none 0 0] 22, rbox m (.slice A1 t.length c1) (.slice A2 p.length c2), .cells #[.int .i64 n] 3] w1
  have g9 := laid_below [rbox m (.slice A1 t.length c1) (.slice A2 p.length c2), .cells #[.slice none 0 0] 22, rbox m (.slice A1 t.length c1) (.slice A2 p.length c2), .cells #[.int .i64 n] 3] w1
  have hsz := laid_size [rbox m (.slice A1 t.length c1) (.slice A2 p.length c2), .cells #[.slice none 0 0] 22, rbox m (.slice A1 t.length c1) (.slice A2 p.length c2), .cells #[.int .i64 n] 3] w1
  rw [← hW0] at hat g9 hsz
  have q1 : Whole W0 w1.heap.size 75 #[.int .i64 m, .slice A1 t.length c1, .slice A2 p.length c2] := hat 0 _ rfl
  have q2 : Whole W0 (w1.heap.size + 1) 22 #[.slice none 0 0] := hat 1 _ rfl
  have q3 : Whole W0 (w1.heap.size + 1 + 1) 75 #[.int .i64 m, .slice A1 t.length c1, .slice A2 p.length c2] := hat 2 _ rfl
  have q4 : Whole W0 (w1.heap.size + 1 + 1 + 1) 3 #[.int .i64 n] := hat 3 _ rfl
  have q5 := F1.out.below g9 F1.out.lt
  have q6 := F2.out.below g9 F2.out.lt
  have q7 := F3.out.below g9 F3.out.lt
  have q8 := below_then HBW.out HBW.out.size g9
  clear hat
  have hW1 := hW0
  simp only [laid, List.foldl] at hW1
  rw [← hW1]
  clear hW0 hW1
  simp only [List.length_cons, List.length_nil] at hsz
  replace hsz := Nat.le_of_eq hsz.symm
  generalize w1.heap.size = R at *
  have HG8 := Lib.hid q8
  have hO : CoV w R K m (.slice A1 t.length c1) (.slice A2 p.length c2) (.slice none 0 0) (.int .i64 0) (.slice none 0 0) (.slice none 0 0) (([] : List Int).map (· % m)) W0 := ⟨⟨q5, q6, q7, q1, q2⟩, RowIs.nil _ _, q8, by omega, by omega⟩
  have hseq := orbit1_gives 5 w.heap.size (R + 1 + 1 + 1) (R + 1 + 1) (K + 1) m A1 A2 c1 c2 t p n W0 HRU.out q4 q3 q8.size (by omega) (by omega) (fun W' hb => Kd.C_below HA.out (HG8.out.trans hb)) (fun W' hb => Kd.C_below HB.out (HG8.out.trans hb))
  clear q1 q2 q3 q4 q5 q6 q7 q8
  refine wpIn_rangeB rfl (by omega) (gf := 83) (lb := #[.pointer (some ⟨R + 1 + 1 + 1, 0, none⟩), .pointer (some ⟨R + 1 + 1, 0, none⟩)]) rfl trivial (enters_of Try.func83 (by kernel_rfl) rfl) hseq (fun h k => KpG_t h k) (KpG_b (by have := HG8.out.size; omega)) (Below.refl _ _) (fun _ => rfl) (fun _ => fun _ _ _ _ h _ _ => h)
    (fun pre W => ((∀ z ∈ pre, smallB z = true) ∧ pre.length ≤ K) ∧ ∃ v, CoV w R K m (.slice A1 t.length c1) (.slice A2 p.length c2) (.slice none 0 0) (.int .i64 0) v v (pre.map (· % m)) W)
    (fun co pre W => ∃ q y, pre = q ++ [y] ∧ ((∀ z ∈ q, smallB z = true) ∧ q.length ≤ K) ∧ ((co = .exit 0 ∧ q.length = K ∧ ∃ v, CoV w R K m (.slice A1 t.length c1) (.slice A2 p.length c2) (.slice none 0 0) (.int .i64 0) v v (q.map (· % m)) W) ∨ (co = .ret ∧ q.length < K ∧ smallB y = false ∧ ∃ v, CoV w R K m (.slice A1 t.length c1) (.slice A2 p.length c2) (.slice none 0 0) (.int .i64 5) v v (q.map (· % m)) W)))
    (fun pre X Y row h hg hr => ⟨h.1, h.2.imp fun v h => h.own hg (B := W0.heap.size) (by omega) hr⟩)
    ?hIx
    (fun pre W h => by have := h.1.2; omega)
    (fun r h => by omega)
    (fun pre X Y r hr h hg => ⟨h.1, h.2.imp fun v h => h.other hg hr⟩)
    ⟨⟨by simp, by simp⟩, _, hO⟩
    ?a1 ?assign ?body ?done ?stop
  case hIx =>
    rintro co pre X Y row ⟨q, y, h1, h2, h3⟩ hg hr
    refine ⟨q, y, h1, h2, h3.imp (fun h => ⟨h.1, h.2.1, h.2.2.imp fun v h => h.own hg (B := W0.heap.size) (by omega) hr⟩) (fun h => ⟨h.1, h.2.1, h.2.2.1, h.2.2.2.imp fun v h => h.own hg (B := W0.heap.size) (by omega) hr⟩)⟩
  case assign =>
    intro l x W K hK
    gi_wp2
    exact hK
  case body =>
    rintro l pre y W hle ⟨⟨hsm, hlen⟩, v, hV⟩ _
    obtain ⟨x1, ⟨x2, y2⟩, ⟨x3, y3⟩, ⟨d0, d1, d2⟩, ⟨x4, y4⟩, x6, z6⟩ := hV.facts
    obtain ⟨A, c, rfl, hac, hC⟩ := hV.2.1.reads
    rw [List.length_map] at hac x4
    have HV := Lib.hid hV
    have HQ := Lib.hid (show (∀ z ∈ pre, smallB z = true) ∧ pre.length ≤ K from ⟨hsm, hlen⟩)
    clear hV hsm hC
    by_cases hqs : pre.length = K
    · have HQS := Lib.hid hqs
      have hi : (pre.length : Int) = (K : Int) := by omega
      gi_wp2
      exact ⟨KeepsFrom.refl _ _, pre, y, rfl, HQ.out, .inl ⟨rfl, HQS.out, _, HV.out⟩⟩
    · have HQS := Lib.hid hqs
      have hi : ¬ (pre.length : Int) = (K : Int) := by omega
      cases hs : smallB y
      · have HS := Lib.hid hs
        gi_wp2_with (refine ⟨trivial, ?_⟩; gi_at_call 59; refine (CallsIn.inRound l (callsIn_wide.2 (small_any _ _))).mono ?_; rintro e w4 ⟨rfl, rfl⟩)
        exact ⟨((KeepsOthers.setCell _ _ _).trans (KeepsOthers.setCell _ _ _)).from _, pre, y, rfl, HQ.out, .inr ⟨rfl, by have := HQS.out; omega, HS.out, _, HV.out.done⟩⟩
      · have HSM := Lib.hid hs
        gi_wp2_with (refine ⟨trivial, ?_⟩; gi_at_call 59; refine (CallsIn.inRound l (callsIn_wide.2 (small_any _ _))).mono ?_; rintro e w4 ⟨rfl, rfl⟩)
        have hVD := HV.out.below (Y := W.drew) ⟨rfl, rfl, rfl, Nat.le_refl _, fun _ _ => rfl⟩
        have HVD := Lib.hid hVD
        clear hVD
        refine wpIn_region_any (by kernel_rfl) ?_
        change wpAnyIn _ _ _ _ _ _ _ _ _ (World.drew _)
        refine wpAnyIn_ready (rs := [0, 1, 2]) (by kernel_rfl) (by simp) ?_
        refine AllReadyIn.cons rfl (fun K hK => ?_) ?_
        · go_simp
          refine hK _ _ ?_
          clear hK K
          refine wpAnyIn_ready (rs := [1, 2]) (by kernel_rfl) (by simp) ?_
          refine AllReadyIn.cons rfl (fun K hK => ?_) ?_
          · go_simp
            refine hK _ _ ?_
            clear hK K
            refine wpAnyIn_ready (rs := [2]) (by kernel_rfl) (by simp) ?_
            refine AllReadyIn.cons rfl (fun K hK => ?_) AllReadyIn.nil
            go_simp
            refine hK _ _ ?_
            clear hK K
            refine wpAnyIn_ready (rs := [3]) (by kernel_rfl) (by simp) ?_
            refine AllReadyIn.cons rfl (fun K hK => ?_) AllReadyIn.nil
            go_simp
            gi_wp2_with (refine ⟨trivial, ?_⟩; gi_at_call 73; refine (CallsIn.inRound l (callsIn_wide.2 (rest_any m _ _ y _ rfl rfl hm hm6))).mono ?_; rintro e w4 ⟨rfl, hb⟩; have hV4 := HVD.out.below hb; have hV4a := hV4.below (below_alloc (Below.refl _ _) (.cells #[.int .i64 (y % m)] 3)); obtain ⟨u1, ⟨u2, v2⟩, ⟨u3, v3⟩, ⟨t0, t1, t2⟩, ⟨u4, v4⟩, u6, u7⟩ := hV4.facts; obtain ⟨v', w5, hrun, hrow, hgrow, hloc⟩ := run_appendI _ (R + 1 + 1 + 1 + 1) _ _ hV4a.2.1 w4.heap.size (y % m) (by simp) (by simp; omega) (by simp; omega); rw [List.length_map] at hrun; obtain ⟨g5, cap5, hv5⟩ := hrow.form (by simp); rw [List.length_append, List.length_map, List.length_singleton] at hv5; subst hv5; obtain ⟨_, _, _, _, ⟨k4, _⟩, _, _⟩ := hV4a.facts; have hV5 := hV4a.append hgrow hrow; obtain ⟨_, _, _, _, ⟨s4, r4⟩, s6, _⟩ := hV5.facts; have hC5 := (((ChgG.refl (R + 1 + 1 + 1 + 1) (R + 1) W).grow (grown_of_below (Below.trans (⟨rfl, rfl, rfl, Nat.le_refl _, fun _ _ => rfl⟩ : Below W.heap.size W W.drew) hb) none) (fun r e => by cases e)).grow (World.grownBy_alloc w4 (.cells #[.int .i64 (y % m)] 3) none) (fun r e => by cases e)).grow hgrow hV4a.2.1.chgG; have HV5 := Lib.hid hV5; have HC5 := Lib.hid hC5; have HRUN := Lib.hid hrun; clear hV4 hV4a hV5 hC5 hrow hgrow hloc hb hrun)
            refine wpAnyIn_ready (rs := [4]) (by kernel_rfl) (by simp) ?_
            refine AllReadyIn.cons rfl (fun K hK => ?_) AllReadyIn.nil
            go_simp
            refine hK _ _ ?_
            clear hK K
            refine wpAnyIn_ready (rs := [5]) (by kernel_rfl) (by simp) ?_
            refine AllReadyIn.cons rfl (fun K hK => ?_) AllReadyIn.nil
            refine appendR (a' := ?br1) (by rfl) rfl (by first | rfl | simp [go_sem]) (by first | rfl | simp [go_sem]) HRUN.out ?har1 (hK _ _ ?_)
            case har1 => (go_simp; try with_reducible rfl)
            clear hK K
            refine wpAnyIn_ready (rs := [6]) (by kernel_rfl) (by simp) ?_
            refine AllReadyIn.cons rfl (fun K hK => ?_) AllReadyIn.nil
            go_simp
            refine hK _ _ ?_
            clear hK K
            refine wpAnyIn_done (by kernel_rfl) ?_ _
            gi_wp2
            have hV6 := HV5.out.store
            have hC6 := HC5.out.grow (setCell_grown w5 (R + 1) 0 (.slice (some ⟨g5, 0, none⟩) (pre.length + 1) cap5)) (fun r e => by injection e with e; exact .inl e.symm)
            exact ⟨hC6.keeps (B := W0.heap.size) (by omega), hC6.kp (by omega) (by omega) (by omega) (by omega) (by omega) (by omega) (by omega), ⟨fun z hz => by rcases List.mem_append.1 hz with h | h; exact HQ.out.1 z h; rw [List.mem_singleton] at h; subst h; exact HSM.out, by have := HQ.out.2; have := HQS.out; simp; omega⟩, _, by rw [List.map_append]; exact hV6⟩
          refine AllReadyIn.cons rfl (fun K hK => ?_) AllReadyIn.nil
          go_simp
          refine hK _ _ ?_
          clear hK K
          refine wpAnyIn_ready (rs := [1]) (by kernel_rfl) (by simp) ?_
          refine AllReadyIn.cons rfl (fun K hK => ?_) AllReadyIn.nil
          go_simp
          refine hK _ _ ?_
          clear hK K
          refine wpAnyIn_ready (rs := [3]) (by kernel_rfl) (by simp) ?_
          refine AllReadyIn.cons rfl (fun K hK => ?_) AllReadyIn.nil
          go_simp
          gi_wp2_with (refine ⟨trivial, ?_⟩; gi_at_call 73; refine (CallsIn.inRound l (callsIn_wide.2 (rest_any m _ _ y _ rfl rfl hm hm6))).mono ?_; rintro e w4 ⟨rfl, hb⟩; have hV4 := HVD.out.below hb; have hV4a := hV4.below (below_alloc (Below.refl _ _) (.cells #[.int .i64 (y % m)] 3)); obtain ⟨u1, ⟨u2, v2⟩, ⟨u3, v3⟩, ⟨t0, t1, t2⟩, ⟨u4, v4⟩, u6, u7⟩ := hV4.facts; obtain ⟨v', w5, hrun, hrow, hgrow, hloc⟩ := run_appendI _ (R + 1 + 1 + 1 + 1) _ _ hV4a.2.1 w4.heap.size (y % m) (by simp) (by simp; omega) (by simp; omega); rw [List.length_map] at hrun; obtain ⟨g5, cap5, hv5⟩ := hrow.form (by simp); rw [List.length_append, List.length_map, List.length_singleton] at hv5; subst hv5; obtain ⟨_, _, _, _, ⟨k4, _⟩, _, _⟩ := hV4a.facts; have hV5 := hV4a.append hgrow hrow; obtain ⟨_, _, _, _, ⟨s4, r4⟩, s6, _⟩ := hV5.facts; have hC5 := (((ChgG.refl (R + 1 + 1 + 1 + 1) (R + 1) W).grow (grown_of_below (Below.trans (⟨rfl, rfl, rfl, Nat.le_refl _, fun _ _ => rfl⟩ : Below W.heap.size W W.drew) hb) none) (fun r e => by cases e)).grow (World.grownBy_alloc w4 (.cells #[.int .i64 (y % m)] 3) none) (fun r e => by cases e)).grow hgrow hV4a.2.1.chgG; have HV5 := Lib.hid hV5; have HC5 := Lib.hid hC5; have HRUN := Lib.hid hrun; clear hV4 hV4a hV5 hC5 hrow hgrow hloc hb hrun)
          refine wpAnyIn_ready (rs := [4]) (by kernel_rfl) (by simp) ?_
          refine AllReadyIn.cons rfl (fun K hK => ?_) AllReadyIn.nil
          go_simp
          refine hK _ _ ?_
          clear hK K
          refine wpAnyIn_ready (rs := [5]) (by kernel_rfl) (by simp) ?_
          refine AllReadyIn.cons rfl (fun K hK => ?_) AllReadyIn.nil
          refine appendR (a' := ?br2) (by rfl) rfl (by first | rfl | simp [go_sem]) (by first | rfl | simp [go_sem]) HRUN.out ?har2 (hK _ _ ?_)
          case har2 => (go_simp; try with_reducible rfl)
          clear hK K
          refine wpAnyIn_ready (rs := [6]) (by kernel_rfl) (by simp) ?_
          refine AllReadyIn.cons rfl (fun K hK => ?_) AllReadyIn.nil
          go_simp
          refine hK _ _ ?_
          clear hK K
          refine wpAnyIn_done (by kernel_rfl) ?_ _
          gi_wp2
          have hV6 := HV5.out.store
          have hC6 := HC5.out.grow (setCell_grown w5 (R + 1) 0 (.slice (some ⟨g5, 0, none⟩) (pre.length + 1) cap5)) (fun r e => by injection e with e; exact .inl e.symm)
          exact ⟨hC6.keeps (B := W0.heap.size) (by omega), hC6.kp (by omega) (by omega) (by omega) (by omega) (by omega) (by omega) (by omega), ⟨fun z hz => by rcases List.mem_append.1 hz with h | h; exact HQ.out.1 z h; rw [List.mem_singleton] at h; subst h; exact HSM.out, by have := HQ.out.2; have := HQS.out; simp; omega⟩, _, by rw [List.map_append]; exact hV6⟩
        refine AllReadyIn.cons rfl (fun K hK => ?_) ?_
        · go_simp
          refine hK _ _ ?_
          clear hK K
          refine wpAnyIn_ready (rs := [0, 2]) (by kernel_rfl) (by simp) ?_
          refine AllReadyIn.cons rfl (fun K hK => ?_) ?_
          · go_simp
            refine hK _ _ ?_
            clear hK K
            refine wpAnyIn_ready (rs := [2]) (by kernel_rfl) (by simp) ?_
            refine AllReadyIn.cons rfl (fun K hK => ?_) AllReadyIn.nil
            go_simp
            refine hK _ _ ?_
            clear hK K
            refine wpAnyIn_ready (rs := [3]) (by kernel_rfl) (by simp) ?_
            refine AllReadyIn.cons rfl (fun K hK => ?_) AllReadyIn.nil
            go_simp
            gi_wp2_with (refine ⟨trivial, ?_⟩; gi_at_call 73; refine (CallsIn.inRound l (callsIn_wide.2 (rest_any m _ _ y _ rfl rfl hm hm6))).mono ?_; rintro e w4 ⟨rfl, hb⟩; have hV4 := HVD.out.below hb; have hV4a := hV4.below (below_alloc (Below.refl _ _) (.cells #[.int .i64 (y % m)] 3)); obtain ⟨u1, ⟨u2, v2⟩, ⟨u3, v3⟩, ⟨t0, t1, t2⟩, ⟨u4, v4⟩, u6, u7⟩ := hV4.facts; obtain ⟨v', w5, hrun, hrow, hgrow, hloc⟩ := run_appendI _ (R + 1 + 1 + 1 + 1) _ _ hV4a.2.1 w4.heap.size (y % m) (by simp) (by simp; omega) (by simp; omega); rw [List.length_map] at hrun; obtain ⟨g5, cap5, hv5⟩ := hrow.form (by simp); rw [List.length_append, List.length_map, List.length_singleton] at hv5; subst hv5; obtain ⟨_, _, _, _, ⟨k4, _⟩, _, _⟩ := hV4a.facts; have hV5 := hV4a.append hgrow hrow; obtain ⟨_, _, _, _, ⟨s4, r4⟩, s6, _⟩ := hV5.facts; have hC5 := (((ChgG.refl (R + 1 + 1 + 1 + 1) (R + 1) W).grow (grown_of_below (Below.trans (⟨rfl, rfl, rfl, Nat.le_refl _, fun _ _ => rfl⟩ : Below W.heap.size W W.drew) hb) none) (fun r e => by cases e)).grow (World.grownBy_alloc w4 (.cells #[.int .i64 (y % m)] 3) none) (fun r e => by cases e)).grow hgrow hV4a.2.1.chgG; have HV5 := Lib.hid hV5; have HC5 := Lib.hid hC5; have HRUN := Lib.hid hrun; clear hV4 hV4a hV5 hC5 hrow hgrow hloc hb hrun)
            refine wpAnyIn_ready (rs := [4]) (by kernel_rfl) (by simp) ?_
            refine AllReadyIn.cons rfl (fun K hK => ?_) AllReadyIn.nil
            go_simp
            refine hK _ _ ?_
            clear hK K
            refine wpAnyIn_ready (rs := [5]) (by kernel_rfl) (by simp) ?_
            refine AllReadyIn.cons rfl (fun K hK => ?_) AllReadyIn.nil
            refine appendR (a' := ?br3) (by rfl) rfl (by first | rfl | simp [go_sem]) (by first | rfl | simp [go_sem]) HRUN.out ?har3 (hK _ _ ?_)
            case har3 => (go_simp; try with_reducible rfl)
            clear hK K
            refine wpAnyIn_ready (rs := [6]) (by kernel_rfl) (by simp) ?_
            refine AllReadyIn.cons rfl (fun K hK => ?_) AllReadyIn.nil
            go_simp
            refine hK _ _ ?_
            clear hK K
            refine wpAnyIn_done (by kernel_rfl) ?_ _
            gi_wp2
            have hV6 := HV5.out.store
            have hC6 := HC5.out.grow (setCell_grown w5 (R + 1) 0 (.slice (some ⟨g5, 0, none⟩) (pre.length + 1) cap5)) (fun r e => by injection e with e; exact .inl e.symm)
            exact ⟨hC6.keeps (B := W0.heap.size) (by omega), hC6.kp (by omega) (by omega) (by omega) (by omega) (by omega) (by omega) (by omega), ⟨fun z hz => by rcases List.mem_append.1 hz with h | h; exact HQ.out.1 z h; rw [List.mem_singleton] at h; subst h; exact HSM.out, by have := HQ.out.2; have := HQS.out; simp; omega⟩, _, by rw [List.map_append]; exact hV6⟩
          refine AllReadyIn.cons rfl (fun K hK => ?_) AllReadyIn.nil
          go_simp
          refine hK _ _ ?_
          clear hK K
          refine wpAnyIn_ready (rs := [0, 3]) (by kernel_rfl) (by simp) ?_
          refine AllReadyIn.cons rfl (fun K hK => ?_) ?_
          · go_simp
            refine hK _ _ ?_
            clear hK K
            refine wpAnyIn_ready (rs := [3]) (by kernel_rfl) (by simp) ?_
            refine AllReadyIn.cons rfl (fun K hK => ?_) AllReadyIn.nil
            go_simp
            gi_wp2_with (refine ⟨trivial, ?_⟩; gi_at_call 73; refine (CallsIn.inRound l (callsIn_wide.2 (rest_any m _ _ y _ rfl rfl hm hm6))).mono ?_; rintro e w4 ⟨rfl, hb⟩; have hV4 := HVD.out.below hb; have hV4a := hV4.below (below_alloc (Below.refl _ _) (.cells #[.int .i64 (y % m)] 3)); obtain ⟨u1, ⟨u2, v2⟩, ⟨u3, v3⟩, ⟨t0, t1, t2⟩, ⟨u4, v4⟩, u6, u7⟩ := hV4.facts; obtain ⟨v', w5, hrun, hrow, hgrow, hloc⟩ := run_appendI _ (R + 1 + 1 + 1 + 1) _ _ hV4a.2.1 w4.heap.size (y % m) (by simp) (by simp; omega) (by simp; omega); rw [List.length_map] at hrun; obtain ⟨g5, cap5, hv5⟩ := hrow.form (by simp); rw [List.length_append, List.length_map, List.length_singleton] at hv5; subst hv5; obtain ⟨_, _, _, _, ⟨k4, _⟩, _, _⟩ := hV4a.facts; have hV5 := hV4a.append hgrow hrow; obtain ⟨_, _, _, _, ⟨s4, r4⟩, s6, _⟩ := hV5.facts; have hC5 := (((ChgG.refl (R + 1 + 1 + 1 + 1) (R + 1) W).grow (grown_of_below (Below.trans (⟨rfl, rfl, rfl, Nat.le_refl _, fun _ _ => rfl⟩ : Below W.heap.size W W.drew) hb) none) (fun r e => by cases e)).grow (World.grownBy_alloc w4 (.cells #[.int .i64 (y % m)] 3) none) (fun r e => by cases e)).grow hgrow hV4a.2.1.chgG; have HV5 := Lib.hid hV5; have HC5 := Lib.hid hC5; have HRUN := Lib.hid hrun; clear hV4 hV4a hV5 hC5 hrow hgrow hloc hb hrun)
            refine wpAnyIn_ready (rs := [4]) (by kernel_rfl) (by simp) ?_
            refine AllReadyIn.cons rfl (fun K hK => ?_) AllReadyIn.nil
            go_simp
            refine hK _ _ ?_
            clear hK K
            refine wpAnyIn_ready (rs := [5]) (by kernel_rfl) (by simp) ?_
            refine AllReadyIn.cons rfl (fun K hK => ?_) AllReadyIn.nil
            refine appendR (a' := ?br4) (by rfl) rfl (by first | rfl | simp [go_sem]) (by first | rfl | simp [go_sem]) HRUN.out ?har4 (hK _ _ ?_)
            case har4 => (go_simp; try with_reducible rfl)
            clear hK K
            refine wpAnyIn_ready (rs := [6]) (by kernel_rfl) (by simp) ?_
            refine AllReadyIn.cons rfl (fun K hK => ?_) AllReadyIn.nil
            go_simp
            refine hK _ _ ?_
            clear hK K
            refine wpAnyIn_done (by kernel_rfl) ?_ _
            gi_wp2
            have hV6 := HV5.out.store
            have hC6 := HC5.out.grow (setCell_grown w5 (R + 1) 0 (.slice (some ⟨g5, 0, none⟩) (pre.length + 1) cap5)) (fun r e => by injection e with e; exact .inl e.symm)
            exact ⟨hC6.keeps (B := W0.heap.size) (by omega), hC6.kp (by omega) (by omega) (by omega) (by omega) (by omega) (by omega) (by omega), ⟨fun z hz => by rcases List.mem_append.1 hz with h | h; exact HQ.out.1 z h; rw [List.mem_singleton] at h; subst h; exact HSM.out, by have := HQ.out.2; have := HQS.out; simp; omega⟩, _, by rw [List.map_append]; exact hV6⟩
          refine AllReadyIn.cons rfl (fun K hK => ?_) AllReadyIn.nil
          go_simp
          gi_wp2_with (refine ⟨trivial, ?_⟩; gi_at_call 73; refine (CallsIn.inRound l (callsIn_wide.2 (rest_any m _ _ y _ rfl rfl hm hm6))).mono ?_; rintro e w4 ⟨rfl, hb⟩; have hV4 := HVD.out.below hb; have hV4a := hV4.below (below_alloc (Below.refl _ _) (.cells #[.int .i64 (y % m)] 3)); obtain ⟨u1, ⟨u2, v2⟩, ⟨u3, v3⟩, ⟨t0, t1, t2⟩, ⟨u4, v4⟩, u6, u7⟩ := hV4.facts; obtain ⟨v', w5, hrun, hrow, hgrow, hloc⟩ := run_appendI _ (R + 1 + 1 + 1 + 1) _ _ hV4a.2.1 w4.heap.size (y % m) (by simp) (by simp; omega) (by simp; omega); rw [List.length_map] at hrun; obtain ⟨g5, cap5, hv5⟩ := hrow.form (by simp); rw [List.length_append, List.length_map, List.length_singleton] at hv5; subst hv5; obtain ⟨_, _, _, _, ⟨k4, _⟩, _, _⟩ := hV4a.facts; have hV5 := hV4a.append hgrow hrow; obtain ⟨_, _, _, _, ⟨s4, r4⟩, s6, _⟩ := hV5.facts; have hC5 := (((ChgG.refl (R + 1 + 1 + 1 + 1) (R + 1) W).grow (grown_of_below (Below.trans (⟨rfl, rfl, rfl, Nat.le_refl _, fun _ _ => rfl⟩ : Below W.heap.size W W.drew) hb) none) (fun r e => by cases e)).grow (World.grownBy_alloc w4 (.cells #[.int .i64 (y % m)] 3) none) (fun r e => by cases e)).grow hgrow hV4a.2.1.chgG; have HV5 := Lib.hid hV5; have HC5 := Lib.hid hC5; have HRUN := Lib.hid hrun; clear hV4 hV4a hV5 hC5 hrow hgrow hloc hb hrun)
          refine wpAnyIn_ready (rs := [0, 4]) (by kernel_rfl) (by simp) ?_
          refine AllReadyIn.cons rfl (fun K hK => ?_) ?_
          · go_simp
            refine hK _ _ ?_
            clear hK K
            refine wpAnyIn_ready (rs := [4]) (by kernel_rfl) (by simp) ?_
            refine AllReadyIn.cons rfl (fun K hK => ?_) AllReadyIn.nil
            go_simp
            refine hK _ _ ?_
            clear hK K
            refine wpAnyIn_ready (rs := [5]) (by kernel_rfl) (by simp) ?_
            refine AllReadyIn.cons rfl (fun K hK => ?_) AllReadyIn.nil
            refine appendR (a' := ?br5) (by rfl) rfl (by first | rfl | simp [go_sem]) (by first | rfl | simp [go_sem]) HRUN.out ?har5 (hK _ _ ?_)
            case har5 => (go_simp; try with_reducible rfl)
            clear hK K
            refine wpAnyIn_ready (rs := [6]) (by kernel_rfl) (by simp) ?_
            refine AllReadyIn.cons rfl (fun K hK => ?_) AllReadyIn.nil
            go_simp
            refine hK _ _ ?_
            clear hK K
            refine wpAnyIn_done (by kernel_rfl) ?_ _
            gi_wp2
            have hV6 := HV5.out.store
            have hC6 := HC5.out.grow (setCell_grown w5 (R + 1) 0 (.slice (some ⟨g5, 0, none⟩) (pre.length + 1) cap5)) (fun r e => by injection e with e; exact .inl e.symm)
            exact ⟨hC6.keeps (B := W0.heap.size) (by omega), hC6.kp (by omega) (by omega) (by omega) (by omega) (by omega) (by omega) (by omega), ⟨fun z hz => by rcases List.mem_append.1 hz with h | h; exact HQ.out.1 z h; rw [List.mem_singleton] at h; subst h; exact HSM.out, by have := HQ.out.2; have := HQS.out; simp; omega⟩, _, by rw [List.map_append]; exact hV6⟩
          refine AllReadyIn.cons rfl (fun K hK => ?_) AllReadyIn.nil
          go_simp
          refine hK _ _ ?_
          clear hK K
          refine wpAnyIn_ready (rs := [0]) (by kernel_rfl) (by simp) ?_
          refine AllReadyIn.cons rfl (fun K hK => ?_) AllReadyIn.nil
          go_simp
          refine hK _ _ ?_
          clear hK K
          refine wpAnyIn_ready (rs := [5]) (by kernel_rfl) (by simp) ?_
          refine AllReadyIn.cons rfl (fun K hK => ?_) AllReadyIn.nil
          refine appendR (a' := ?br6) (by rfl) rfl (by first | rfl | simp [go_sem]) (by first | rfl | simp [go_sem]) HRUN.out ?har6 (hK _ _ ?_)
          case har6 => (go_simp; try with_reducible rfl)
          clear hK K
          refine wpAnyIn_ready (rs := [6]) (by kernel_rfl) (by simp) ?_
          refine AllReadyIn.cons rfl (fun K hK => ?_) AllReadyIn.nil
          go_simp
          refine hK _ _ ?_
          clear hK K
          refine wpAnyIn_done (by kernel_rfl) ?_ _
          gi_wp2
          have hV6 := HV5.out.store
          have hC6 := HC5.out.grow (setCell_grown w5 (R + 1) 0 (.slice (some ⟨g5, 0, none⟩) (pre.length + 1) cap5)) (fun r e => by injection e with e; exact .inl e.symm)
          exact ⟨hC6.keeps (B := W0.heap.size) (by omega), hC6.kp (by omega) (by omega) (by omega) (by omega) (by omega) (by omega) (by omega), ⟨fun z hz => by rcases List.mem_append.1 hz with h | h; exact HQ.out.1 z h; rw [List.mem_singleton] at h; subst h; exact HSM.out, by have := HQ.out.2; have := HQS.out; simp; omega⟩, _, by rw [List.map_append]; exact hV6⟩
        refine AllReadyIn.cons rfl (fun K hK => ?_) AllReadyIn.nil
        go_simp
        refine hK _ _ ?_
        clear hK K
        refine wpAnyIn_ready (rs := [0, 1]) (by kernel_rfl) (by simp) ?_
        refine AllReadyIn.cons rfl (fun K hK => ?_) ?_
        · go_simp
          refine hK _ _ ?_
          clear hK K
          refine wpAnyIn_ready (rs := [1]) (by kernel_rfl) (by simp) ?_
          refine AllReadyIn.cons rfl (fun K hK => ?_) AllReadyIn.nil
          go_simp
          refine hK _ _ ?_
          clear hK K
          refine wpAnyIn_ready (rs := [3]) (by kernel_rfl) (by simp) ?_
          refine AllReadyIn.cons rfl (fun K hK => ?_) AllReadyIn.nil
          go_simp
          gi_wp2_with (refine ⟨trivial, ?_⟩; gi_at_call 73; refine (CallsIn.inRound l (callsIn_wide.2 (rest_any m _ _ y _ rfl rfl hm hm6))).mono ?_; rintro e w4 ⟨rfl, hb⟩; have hV4 := HVD.out.below hb; have hV4a := hV4.below (below_alloc (Below.refl _ _) (.cells #[.int .i64 (y % m)] 3)); obtain ⟨u1, ⟨u2, v2⟩, ⟨u3, v3⟩, ⟨t0, t1, t2⟩, ⟨u4, v4⟩, u6, u7⟩ := hV4.facts; obtain ⟨v', w5, hrun, hrow, hgrow, hloc⟩ := run_appendI _ (R + 1 + 1 + 1 + 1) _ _ hV4a.2.1 w4.heap.size (y % m) (by simp) (by simp; omega) (by simp; omega); rw [List.length_map] at hrun; obtain ⟨g5, cap5, hv5⟩ := hrow.form (by simp); rw [List.length_append, List.length_map, List.length_singleton] at hv5; subst hv5; obtain ⟨_, _, _, _, ⟨k4, _⟩, _, _⟩ := hV4a.facts; have hV5 := hV4a.append hgrow hrow; obtain ⟨_, _, _, _, ⟨s4, r4⟩, s6, _⟩ := hV5.facts; have hC5 := (((ChgG.refl (R + 1 + 1 + 1 + 1) (R + 1) W).grow (grown_of_below (Below.trans (⟨rfl, rfl, rfl, Nat.le_refl _, fun _ _ => rfl⟩ : Below W.heap.size W W.drew) hb) none) (fun r e => by cases e)).grow (World.grownBy_alloc w4 (.cells #[.int .i64 (y % m)] 3) none) (fun r e => by cases e)).grow hgrow hV4a.2.1.chgG; have HV5 := Lib.hid hV5; have HC5 := Lib.hid hC5; have HRUN := Lib.hid hrun; clear hV4 hV4a hV5 hC5 hrow hgrow hloc hb hrun)
          refine wpAnyIn_ready (rs := [4]) (by kernel_rfl) (by simp) ?_
          refine AllReadyIn.cons rfl (fun K hK => ?_) AllReadyIn.nil
          go_simp
          refine hK _ _ ?_
          clear hK K
          refine wpAnyIn_ready (rs := [5]) (by kernel_rfl) (by simp) ?_
          refine AllReadyIn.cons rfl (fun K hK => ?_) AllReadyIn.nil
          refine appendR (a' := ?br7) (by rfl) rfl (by first | rfl | simp [go_sem]) (by first | rfl | simp [go_sem]) HRUN.out ?har7 (hK _ _ ?_)
          case har7 => (go_simp; try with_reducible rfl)
          clear hK K
          refine wpAnyIn_ready (rs := [6]) (by kernel_rfl) (by simp) ?_
          refine AllReadyIn.cons rfl (fun K hK => ?_) AllReadyIn.nil
          go_simp
          refine hK _ _ ?_
          clear hK K
          refine wpAnyIn_done (by kernel_rfl) ?_ _
          gi_wp2
          have hV6 := HV5.out.store
          have hC6 := HC5.out.grow (setCell_grown w5 (R + 1) 0 (.slice (some ⟨g5, 0, none⟩) (pre.length + 1) cap5)) (fun r e => by injection e with e; exact .inl e.symm)
          exact ⟨hC6.keeps (B := W0.heap.size) (by omega), hC6.kp (by omega) (by omega) (by omega) (by omega) (by omega) (by omega) (by omega), ⟨fun z hz => by rcases List.mem_append.1 hz with h | h; exact HQ.out.1 z h; rw [List.mem_singleton] at h; subst h; exact HSM.out, by have := HQ.out.2; have := HQS.out; simp; omega⟩, _, by rw [List.map_append]; exact hV6⟩
        refine AllReadyIn.cons rfl (fun K hK => ?_) AllReadyIn.nil
        go_simp
        refine hK _ _ ?_
        clear hK K
        refine wpAnyIn_ready (rs := [0, 3]) (by kernel_rfl) (by simp) ?_
        refine AllReadyIn.cons rfl (fun K hK => ?_) ?_
        · go_simp
          refine hK _ _ ?_
          clear hK K
          refine wpAnyIn_ready (rs := [3]) (by kernel_rfl) (by simp) ?_
          refine AllReadyIn.cons rfl (fun K hK => ?_) AllReadyIn.nil
          go_simp
          gi_wp2_with (refine ⟨trivial, ?_⟩; gi_at_call 73; refine (CallsIn.inRound l (callsIn_wide.2 (rest_any m _ _ y _ rfl rfl hm hm6))).mono ?_; rintro e w4 ⟨rfl, hb⟩; have hV4 := HVD.out.below hb; have hV4a := hV4.below (below_alloc (Below.refl _ _) (.cells #[.int .i64 (y % m)] 3)); obtain ⟨u1, ⟨u2, v2⟩, ⟨u3, v3⟩, ⟨t0, t1, t2⟩, ⟨u4, v4⟩, u6, u7⟩ := hV4.facts; obtain ⟨v', w5, hrun, hrow, hgrow, hloc⟩ := run_appendI _ (R + 1 + 1 + 1 + 1) _ _ hV4a.2.1 w4.heap.size (y % m) (by simp) (by simp; omega) (by simp; omega); rw [List.length_map] at hrun; obtain ⟨g5, cap5, hv5⟩ := hrow.form (by simp); rw [List.length_append, List.length_map, List.length_singleton] at hv5; subst hv5; obtain ⟨_, _, _, _, ⟨k4, _⟩, _, _⟩ := hV4a.facts; have hV5 := hV4a.append hgrow hrow; obtain ⟨_, _, _, _, ⟨s4, r4⟩, s6, _⟩ := hV5.facts; have hC5 := (((ChgG.refl (R + 1 + 1 + 1 + 1) (R + 1) W).grow (grown_of_below (Below.trans (⟨rfl, rfl, rfl, Nat.le_refl _, fun _ _ => rfl⟩ : Below W.heap.size W W.drew) hb) none) (fun r e => by cases e)).grow (World.grownBy_alloc w4 (.cells #[.int .i64 (y % m)] 3) none) (fun r e => by cases e)).grow hgrow hV4a.2.1.chgG; have HV5 := Lib.hid hV5; have HC5 := Lib.hid hC5; have HRUN := Lib.hid hrun; clear hV4 hV4a hV5 hC5 hrow hgrow hloc hb hrun)
          refine wpAnyIn_ready (rs := [4]) (by kernel_rfl) (by simp) ?_
          refine AllReadyIn.cons rfl (fun K hK => ?_) AllReadyIn.nil
          go_simp
          refine hK _ _ ?_
          clear hK K
          refine wpAnyIn_ready (rs := [5]) (by kernel_rfl) (by simp) ?_
          refine AllReadyIn.cons rfl (fun K hK => ?_) AllReadyIn.nil
          refine appendR (a' := ?br8) (by rfl) rfl (by first | rfl | simp [go_sem]) (by first | rfl | simp [go_sem]) HRUN.out ?har8 (hK _ _ ?_)
          case har8 => (go_simp; try with_reducible rfl)
          clear hK K
          refine wpAnyIn_ready (rs := [6]) (by kernel_rfl) (by simp) ?_
          refine AllReadyIn.cons rfl (fun K hK => ?_) AllReadyIn.nil
          go_simp
          refine hK _ _ ?_
          clear hK K
          refine wpAnyIn_done (by kernel_rfl) ?_ _
          gi_wp2
          have hV6 := HV5.out.store
          have hC6 := HC5.out.grow (setCell_grown w5 (R + 1) 0 (.slice (some ⟨g5, 0, none⟩) (pre.length + 1) cap5)) (fun r e => by injection e with e; exact .inl e.symm)
          exact ⟨hC6.keeps (B := W0.heap.size) (by omega), hC6.kp (by omega) (by omega) (by omega) (by omega) (by omega) (by omega) (by omega), ⟨fun z hz => by rcases List.mem_append.1 hz with h | h; exact HQ.out.1 z h; rw [List.mem_singleton] at h; subst h; exact HSM.out, by have := HQ.out.2; have := HQS.out; simp; omega⟩, _, by rw [List.map_append]; exact hV6⟩
        refine AllReadyIn.cons rfl (fun K hK => ?_) AllReadyIn.nil
        go_simp
        gi_wp2_with (refine ⟨trivial, ?_⟩; gi_at_call 73; refine (CallsIn.inRound l (callsIn_wide.2 (rest_any m _ _ y _ rfl rfl hm hm6))).mono ?_; rintro e w4 ⟨rfl, hb⟩; have hV4 := HVD.out.below hb; have hV4a := hV4.below (below_alloc (Below.refl _ _) (.cells #[.int .i64 (y % m)] 3)); obtain ⟨u1, ⟨u2, v2⟩, ⟨u3, v3⟩, ⟨t0, t1, t2⟩, ⟨u4, v4⟩, u6, u7⟩ := hV4.facts; obtain ⟨v', w5, hrun, hrow, hgrow, hloc⟩ := run_appendI _ (R + 1 + 1 + 1 + 1) _ _ hV4a.2.1 w4.heap.size (y % m) (by simp) (by simp; omega) (by simp; omega); rw [List.length_map] at hrun; obtain ⟨g5, cap5, hv5⟩ := hrow.form (by simp); rw [List.length_append, List.length_map, List.length_singleton] at hv5; subst hv5; obtain ⟨_, _, _, _, ⟨k4, _⟩, _, _⟩ := hV4a.facts; have hV5 := hV4a.append hgrow hrow; obtain ⟨_, _, _, _, ⟨s4, r4⟩, s6, _⟩ := hV5.facts; have hC5 := (((ChgG.refl (R + 1 + 1 + 1 + 1) (R + 1) W).grow (grown_of_below (Below.trans (⟨rfl, rfl, rfl, Nat.le_refl _, fun _ _ => rfl⟩ : Below W.heap.size W W.drew) hb) none) (fun r e => by cases e)).grow (World.grownBy_alloc w4 (.cells #[.int .i64 (y % m)] 3) none) (fun r e => by cases e)).grow hgrow hV4a.2.1.chgG; have HV5 := Lib.hid hV5; have HC5 := Lib.hid hC5; have HRUN := Lib.hid hrun; clear hV4 hV4a hV5 hC5 hrow hgrow hloc hb hrun)
        refine wpAnyIn_ready (rs := [0, 4]) (by kernel_rfl) (by simp) ?_
        refine AllReadyIn.cons rfl (fun K hK => ?_) ?_
        · go_simp
          refine hK _ _ ?_
          clear hK K
          refine wpAnyIn_ready (rs := [4]) (by kernel_rfl) (by simp) ?_
          refine AllReadyIn.cons rfl (fun K hK => ?_) AllReadyIn.nil
          go_simp
          refine hK _ _ ?_
          clear hK K
          refine wpAnyIn_ready (rs := [5]) (by kernel_rfl) (by simp) ?_
          refine AllReadyIn.cons rfl (fun K hK => ?_) AllReadyIn.nil
          refine appendR (a' := ?br9) (by rfl) rfl (by first | rfl | simp [go_sem]) (by first | rfl | simp [go_sem]) HRUN.out ?har9 (hK _ _ ?_)
          case har9 => (go_simp; try with_reducible rfl)
          clear hK K
          refine wpAnyIn_ready (rs := [6]) (by kernel_rfl) (by simp) ?_
          refine AllReadyIn.cons rfl (fun K hK => ?_) AllReadyIn.nil
          go_simp
          refine hK _ _ ?_
          clear hK K
          refine wpAnyIn_done (by kernel_rfl) ?_ _
          gi_wp2
          have hV6 := HV5.out.store
          have hC6 := HC5.out.grow (setCell_grown w5 (R + 1) 0 (.slice (some ⟨g5, 0, none⟩) (pre.length + 1) cap5)) (fun r e => by injection e with e; exact .inl e.symm)
          exact ⟨hC6.keeps (B := W0.heap.size) (by omega), hC6.kp (by omega) (by omega) (by omega) (by omega) (by omega) (by omega) (by omega), ⟨fun z hz => by rcases List.mem_append.1 hz with h | h; exact HQ.out.1 z h; rw [List.mem_singleton] at h; subst h; exact HSM.out, by have := HQ.out.2; have := HQS.out; simp; omega⟩, _, by rw [List.map_append]; exact hV6⟩
        refine AllReadyIn.cons rfl (fun K hK => ?_) AllReadyIn.nil
        go_simp
        refine hK _ _ ?_
        clear hK K
        refine wpAnyIn_ready (rs := [0]) (by kernel_rfl) (by simp) ?_
        refine AllReadyIn.cons rfl (fun K hK => ?_) AllReadyIn.nil
        go_simp
        refine hK _ _ ?_
        clear hK K
        refine wpAnyIn_ready (rs := [5]) (by kernel_rfl) (by simp) ?_
        refine AllReadyIn.cons rfl (fun K hK => ?_) AllReadyIn.nil
        refine appendR (a' := ?br10) (by rfl) rfl (by first | rfl | simp [go_sem]) (by first | rfl | simp [go_sem]) HRUN.out ?har10 (hK _ _ ?_)
        case har10 => (go_simp; try with_reducible rfl)
        clear hK K
        refine wpAnyIn_ready (rs := [6]) (by kernel_rfl) (by simp) ?_
        refine AllReadyIn.cons rfl (fun K hK => ?_) AllReadyIn.nil
        go_simp
        refine hK _ _ ?_
        clear hK K
        refine wpAnyIn_done (by kernel_rfl) ?_ _
        gi_wp2
        have hV6 := HV5.out.store
        have hC6 := HC5.out.grow (setCell_grown w5 (R + 1) 0 (.slice (some ⟨g5, 0, none⟩) (pre.length + 1) cap5)) (fun r e => by injection e with e; exact .inl e.symm)
        exact ⟨hC6.keeps (B := W0.heap.size) (by omega), hC6.kp (by omega) (by omega) (by omega) (by omega) (by omega) (by omega) (by omega), ⟨fun z hz => by rcases List.mem_append.1 hz with h | h; exact HQ.out.1 z h; rw [List.mem_singleton] at h; subst h; exact HSM.out, by have := HQ.out.2; have := HQS.out; simp; omega⟩, _, by rw [List.map_append]; exact hV6⟩
  case done =>
    rintro D xs W hD ⟨k, rfl, _, hl⟩ ⟨⟨hsm, _⟩, _⟩ _ _
    have := hsm (iterW m t p k n) (by rw [orbTo_succ]; simp)
    rw [hl] at this
    cases this
  case stop =>
    rintro D co pre W hD ⟨k, hpre, hsk⟩ ⟨q, y, hqy, ⟨hsm, hlen⟩, hco⟩ hK hD2
    have e1 := hpre.symm.trans hqy
    rw [orbTo_succ] at e1
    obtain ⟨rfl, e2⟩ := List.append_inj' e1 rfl
    simp only [List.cons.injEq, and_true] at e2
    subst e2
    rw [orbTo_length] at hlen hco
    have hmap : (orbTo m t p n k).map (· % m) = remW m t p n k := by simp [orbTo, remW]
    rcases hco with ⟨rfl, hk, v, hV⟩ | ⟨rfl, hk, hsy, v, hV⟩
    · subst hk
      have hgo : courseW m t p n k = some (remW m t p n k) := by
        unfold courseW
        rw [if_pos (by rw [List.all_eq_true]; exact hsm)]
      rw [hmap] at hV
      obtain ⟨A, c, rfl, hac, hC⟩ := hV.2.1.reads
      obtain ⟨x1, ⟨x2, y2⟩, ⟨x3, y3⟩, _, ⟨x4, y4⟩, x6, z6⟩ := hV.facts
      have hV2 := (hV.done (u1 := (.slice A (remW m t p n k).length c)) (u2 := .int .i64 0)).own (grownBy_putObj' _ D (.deferred none)) (B := W0.heap.size) (by omega) (fun r e => by injection e with e; subst e; exact ⟨hD, _, (Below.heap_setCell _ _ _ _ (by show _ ≠ w.heap.size + 1 + 1 + 1; omega)).trans ((Below.heap_setCell _ _ _ _ (by show _ ≠ w.heap.size + 1 + 1; omega)).trans hK), rfl⟩)
      have hK2 := (Below.heap_setCell (W.setCell ⟨w.heap.size + 1 + 1, 0, none⟩ (.slice A (remW m t p n k).length c)) ⟨w.heap.size + 1 + 1 + 1, 0, none⟩ (.int .i64 0) D (by show _ ≠ w.heap.size + 1 + 1 + 1; omega)).trans ((Below.heap_setCell W ⟨w.heap.size + 1 + 1, 0, none⟩ (.slice A (remW m t p n k).length c) D (by show _ ≠ w.heap.size + 1 + 1; omega)).trans hK)
      have HV := Lib.hid hV2
      have HK := Lib.hid hK2
      have HGO := Lib.hid hgo
      clear hV hV2 hgo hpre hqy hsm hsk e1 hK hK2 hC hac
      gi_wp2
      refine ⟨by simp, .inl ⟨_, _, rfl, run_takeDeferred HK.out, ?_⟩⟩
      have e := HRES.out.symm.trans HGO.out
      subst e
      have e5 := HCD.out
      simp only [Option.isSome_some, if_true] at e5
      subst e5
      have hV := HV.out
      exact ⟨_, results_cc rfl _ _ rfl rfl hV.1.2.1.one.1 hV.1.2.2.1.one.1, _, rfl, hV.2.1.R (by omega), hV.2.2.1⟩
    · have hgo : courseW m t p n K = none := by
        unfold courseW
        rw [if_neg]
        rw [Bool.not_eq_true, List.all_eq_false]
        exact ⟨iterW m t p k n, by simp only [orbTo, List.mem_map, List.mem_range]; exact ⟨k, hk, rfl⟩, by rw [hsy]; decide⟩
      have hV2 := hV.own (grownBy_putObj' _ D (.deferred none)) (B := W0.heap.size) (by omega) (fun r e => by injection e with e; subst e; exact ⟨hD, _, hK, rfl⟩)
      have HV := Lib.hid hV2
      have HK := Lib.hid hK
      have HGO := Lib.hid hgo
      clear hV hV2 hgo hpre hqy hsm hsk e1 hK
      gi_wp2
      refine ⟨by simp, .inl ⟨_, _, rfl, run_takeDeferred HK.out, ?_⟩⟩
      have e := HRES.out.symm.trans HGO.out
      subst e
      have e5 := HCD.out
      simp only [Option.isSome_none, Bool.false_eq_true, if_false] at e5
      subst e5
      have hV := HV.out
      exact ⟨_, results_cc rfl _ _ rfl rfl hV.1.2.1.one.1 hV.1.2.2.1.one.1, .slice none 0 0, rfl, Kd.R_nil _ _ _ _ _, hV.2.2.1⟩

set_option maxHeartbeats 1000000 in
theorem wheel_Course.calls (m : Int) (A1 : Option Addr) (c1 : Nat) (t : List Int) (A2 : Option Addr) (c2 : Nat) (p : List Int) (n k : Int) (r1 : List Int) (r2 : Int) (w : World) (h1 : Kd.C (Kd.int .i64) w A1 t.length t) (hc1 : t.length ≤ c1) (h2 : Kd.C (Kd.int .i64) w A2 p.length p) (hc2 : p.length ≤ c2) (h : wheel_Course.f m t p n k = some (r1, r2)) :
    Calls Try.prog 42 #[.agg #[.int .i64 m, .slice A1 t.length c1, .slice A2 p.length c2], .int .i64 n, .int .i64 k] w fun e w' => ∃ v0_ : Value, e = .returned (.tuple #[v0_, .int .i64 r2]) ∧ Kd.R (Kd.int .i64) 3 w' w.heap.size (fun _ => True) v0_ r1 ∧ Below w.heap.size w w' := by
  simp only [wheel_Course.f, Option.some.injEq] at h
  cases hb : (ruleB m t p && (smallB n && inB k 0 500))
  · rw [hb] at h
    simp only [Bool.false_eq_true, if_false, Prod.mk.injEq] at h
    obtain ⟨rfl, rfl⟩ := h
    refine (course_bad m A1 c1 t A2 c2 p n k w h1 h2 hb).mono ?_
    rintro e w' ⟨rfl, hbel⟩
    exact ⟨_, rfl, Kd.R_nil _ _ _ _ _, hbel⟩
  · rw [hb] at h
    simp only [Bool.and_eq_true] at hb
    obtain ⟨K, rfl⟩ : ∃ K : Nat, k = (K : Int) := ⟨k.toNat, by have := hb.2.2; simp [inB] at this; omega⟩
    rw [Int.toNat_natCast] at h
    refine (course_ok m A1 c1 t A2 c2 p n K w h1 h2 hb.1 hb.2.1 hb.2.2 _ rfl _ rfl).mono ?_
    rintro e w' ⟨v, rfl, hv, hbel⟩
    cases hg : courseW m t p n K with
    | none =>
      rw [hg] at h hv
      simp only [if_true, Prod.mk.injEq] at h
      obtain ⟨rfl, rfl⟩ := h
      exact ⟨_, rfl, hv, hbel⟩
    | some l =>
      rw [hg] at h hv
      simp only [if_true, Prod.mk.injEq] at h
      obtain ⟨rfl, rfl⟩ := h
      exact ⟨_, rfl, hv, hbel⟩
end Go.Proofs.Ytkjojcepombhpaa.L
