/- XOwnM: XLawV, XOwnA, N5i, N12, NWholeF, XOwn, NOwn in one text. -/
import Derived.Test.YtkjojcepombhpaaN8
import Derived.Test.YtkjojcepombhpaaXRows
import Derived.Test.YtkjojcepombhpaaN3
import Derived.Test.YtkjojcepombhpaaL8i
import Derived.Test.YtkjojcepombhpaaN11
import Derived.Test.YtkjojcepombhpaaN5
import Derived.Test.YtkjojcepombhpaaL24
import Derived.Test.YtkjojcepombhpaaN6
import Derived.Test.YtkjojcepombhpaaN2
import Derived.Test.YtkjojcepombhpaaL9
import Derived.Test.YtkjojcepombhpaaL12l

/- The rule that a law has made, in later worlds. -/
-- half indentation
namespace Go.Proofs.Ytkjojcepombhpaa.L
set_option linter.unusedVariables false
set_option linter.unusedSimpArgs false
open Go.RowKit Go.Shelf Go.Proofs.YtkjojcepombhpaaW.PrintWords Go.Proofs.YtkjojcepombhpaaW.PrintLast Go.Proofs.YtkjojcepombhpaaW.PrintMore

/-- Block R of W is the variable that holds the rule; nothing below w's end has turned. -/
structure LawV (w : World) (R : Nat) (m : Int) (A3 : Option Addr) (c3 : Nat) (T : List Int) (A4 : Option Addr) (c4 : Nat) (P : List Int) (W : World) : Prop where
 rule : Whole W R 24 #[.int .i64 m, .slice A3 T.length c3, .slice A4 P.length c4]
 t : Kd.C (Kd.int .i64) W A3 T.length T
 p : Kd.C (Kd.int .i64) W A4 P.length P
 bel : Below w.heap.size w W
theorem LawV.below {w : World} {R : Nat} {m : Int} {A3 : Option Addr} {c3 : Nat} {T : List Int} {A4 : Option Addr} {c4 : Nat} {P : List Int} {X Y : World} (h : LawV w R m A3 c3 T A4 c4 P X) (hb : Below X.heap.size X Y) : LawV w R m A3 c3 T A4 c4 P Y :=
 ⟨h.rule.below hb h.rule.lt, Kd.C_below h.t hb, Kd.C_below h.p hb, h.bel.trans (hb.mono h.bel.size)⟩
theorem LawV.new (w w1 : World) (m : Int) (A3 : Option Addr) (c3 : Nat) (T : List Int) (A4 : Option Addr) (c4 : Nat) (P : List Int) (h3 : Kd.C (Kd.int .i64) w1 A3 T.length T) (h4 : Kd.C (Kd.int .i64) w1 A4 P.length P) (hb : Below w.heap.size w w1) :
  LawV w w1.heap.size m A3 c3 T A4 c4 P (w1.alloc (rbox24 m (.slice A3 T.length c3) (.slice A4 P.length c4))) :=
 ⟨Whole.new w1 24 _, Kd.C_alloc h3 _, Kd.C_alloc h4 _, below_alloc hb _⟩
section
variable {P : Program} {ops : Array Oper} {md : Region.Mode} {Q : Exit → Act → World → Prop}
/-- An operation taken first, the frame written out anew. -/
theorem takeL {i : Nat} {oi : Oper} {v : Value} {fuel : Nat} {listed : Array Bool} {a a' : Act} {w : World} (hi : ops[i]? = some oi)
  (hs : Region.noSelect ops = true) (hf : Region.free md ops listed i = true) (hr : (Region.ready md ops listed).contains i = true)
  (hQ : ∀ c a w, Q (.panic c) (a.put oi.dst v) w → Q (.panic c) a w) (hy : Yields P ops oi v a) (ha : a.put oi.dst v = a')
  (h : wpAny P md ops Q fuel (listed.setIfInBounds i true) a' w) : wpAny P md ops Q (fuel + 1) listed a w := by
 subst ha
 exact wpAny_take hi hs hf hr hQ hy h
end
end Go.Proofs.Ytkjojcepombhpaa.L

/- WheelOwn: what holds of the memory. -/
namespace Go.Proofs.Ytkjojcepombhpaa.L
set_option linter.unusedVariables false
set_option linter.unusedSimpArgs false
open Go.RowKit Go.Shelf Go.Proofs.YtkjojcepombhpaaW.PrintWords Go.Proofs.YtkjojcepombhpaaW.PrintLast Go.Proofs.YtkjojcepombhpaaW.PrintMore

theorem RowIs.put {W : World} {B g n cap : Nat} {xs : List Int} (h : RowIs W B (.slice (some ⟨g, 0, none⟩) n cap) xs) (k : Nat) (hk : k < xs.length) (y : Int) :
  RowIs (W.setCell ⟨g, k, none⟩ (.int .i64 y)) B (.slice (some ⟨g, 0, none⟩) n cap) (xs.set k y) ∧ W.grownBy (W.setCell ⟨g, k, none⟩ (.int .i64 y)) (some g) ∧ (∃ z, W.cell? ⟨g, k, none⟩ = some (.int .i64 z)) ∧ W.frozen? ⟨g, k, none⟩ = false := by
 obtain ⟨A, c, e, _, _⟩ := h.reads
 injection e with _ e2 _
 subst e2
 obtain ⟨h1, h2⟩ := Kd.R_put (h.R (Nat.le_refl B)) (k : Int) y
 obtain ⟨h3, h4⟩ := Kd.R_cell (0 : Int) (h.R (Nat.le_refl B)) (k : Int) (by omega) (by omega)
 rw [Int.toNat_natCast] at h1 h2 h3 h4
 have h5 := Kd.own_of_R h1
 exact ⟨h5, h2, ⟨_, h3⟩, h4⟩
/-- A store into one of the rows. -/
theorem RowsIs.put {W : World} {B : Nat} {v : Value} {ps : List (Value × List Int)} (h : RowsIs W B v ps) (q : Nat) (hq : q < ps.length) {g n cap : Nat} (hv : ps[q].1 = .slice (some ⟨g, 0, none⟩) n cap) (k : Nat) (hk : k < ps[q].2.length) (y : Int) :
  RowsIs (W.setCell ⟨g, k, none⟩ (.int .i64 y)) B v (ps.set q (ps[q].1, ps[q].2.set k y)) ∧ W.grownBy (W.setCell ⟨g, k, none⟩ (.int .i64 y)) (some g) ∧ B ≤ g ∧ (∃ z, W.cell? ⟨g, k, none⟩ = some (.int .i64 z)) ∧ W.frozen? ⟨g, k, none⟩ = false := by
 have hr := h.2.1 _ (List.getElem_mem hq)
 have hr2 := hr
 rw [hv] at hr2
 obtain ⟨p1, p2, p3, p4⟩ := hr2.put k hk y
 have hob : ps[q].1.ownBlock = some g := by rw [hv]; rfl
 have hB := (hr.block hob).1
 have hfst : (ps.set q (ps[q].1, ps[q].2.set k y)).map Prod.fst = ps.map Prod.fst := by
  rw [List.map_set]
  apply List.ext_getElem?
  intro j
  rw [List.getElem?_set]
  split
  ·rename_i e
   subst e
   simp [hq]
  ·rfl
 refine ⟨⟨?_, ?_, ?_⟩, p2, hB, p3, p4⟩
 ·rw [hfst, List.length_set]
  refine h.1.kept p2 ?_
  rcases hr.apart h with h1 | h1
  ·rw [hob] at h1; cases h1
  ·rw [hob] at h1
   exact .inr (fun e => h1 e.symm)
 ·intro x hx
  obtain ⟨j, hj, rfl⟩ := List.mem_iff_getElem.1 hx
  rw [List.length_set] at hj
  rw [List.getElem_set]
  split
  ·rename_i e
   subst e
   show RowIs _ B ps[q].1 (ps[q].2.set k y)
   rw [hv]
   exact p1
  ·rename_i e
   refine (h.2.1 _ (List.getElem_mem hj)).kept p2 ?_
   cases e2 : ps[j].1.ownBlock with
   | none => exact .inl rfl
   | some b =>
    refine .inr (fun e3 => ?_)
    cases e3
    rcases Nat.lt_or_ge q j with h5 | h5
    ·exact (List.pairwise_iff_getElem.1 h.2.2) q j hq hj h5 g hob e2
    ·exact (List.pairwise_iff_getElem.1 h.2.2) j q hj hq (by omega) g e2 hob
 ·have hp := h.2.2
  rw [← List.pairwise_map (f := Prod.fst) (R := Parted)] at hp ⊢
  rw [hfst]
  exact hp

/-- The variables of the law that stay. -/
structure OwnV (w : World) (R U : Nat) (m : Int) (A3 : Option Addr) (c3 : Nat) (T : List Int) (A4 : Option Addr) (c4 : Nat) (P : List Int) (A8 : Option Addr) (c8 : Nat) (A9 : Option Addr) (c9 : Nat) (A7 A10 : Option Addr) (cc : List Int) (W : World) : Prop where
 x : LawV w R m A3 c3 T A4 c4 P W
 u : LawV w U m A8 c8 T A9 c9 P W
 c : Kd.C (Kd.int .i64) W A7 cc.length cc
 d : Kd.C (Kd.int .i64) W A10 cc.length cc
theorem OwnV.below {w : World} {R U : Nat} {m : Int} {A3 : Option Addr} {c3 : Nat} {T : List Int} {A4 : Option Addr} {c4 : Nat} {P : List Int} {A8 : Option Addr} {c8 : Nat} {A9 : Option Addr} {c9 : Nat} {A7 A10 : Option Addr} {cc : List Int} {X Y : World} (h : OwnV w R U m A3 c3 T A4 c4 P A8 c8 A9 c9 A7 A10 cc X) (hb : Below X.heap.size X Y) : OwnV w R U m A3 c3 T A4 c4 P A8 c8 A9 c9 A7 A10 cc Y :=
 ⟨h.x.below hb, h.u.below hb, Kd.C_below h.c hb, Kd.C_below h.d hb⟩

/-- Three rows and the list of them. -/
def OwnR (W4 : World) (av : Value) (vs : List Value) (ns : List Nat) (W : World) : Prop :=
 Below W4.heap.size W4 W ∧ ∃ ps, RowsIs W W4.heap.size av ps ∧ ps.map Prod.fst = vs ∧ ps.map (fun q => q.2.length) = ns
theorem OwnR.below {W4 : World} {av : Value} {vs : List Value} {ns : List Nat} {X Y : World} (h : OwnR W4 av vs ns X) (hb : Below X.heap.size X Y) : OwnR W4 av vs ns Y := by
 obtain ⟨h1, ps, h2, h3⟩ := h
 exact ⟨h1.trans (hb.mono h1.size), ps, h2.below hb, h3⟩
theorem OwnR.put {W4 : World} {av : Value} {vs : List Value} {ns : List Nat} {W : World} (h : OwnR W4 av vs ns W) {q g n cap k : Nat} (hv : vs[q]? = some (.slice (some ⟨g, 0, none⟩) n cap)) (hn : ns[q]? = some n) (hk : k < n) (y : Int) :
  OwnR W4 av vs ns (W.setCell ⟨g, k, none⟩ (.int .i64 y)) ∧ (∃ z, W.cell? ⟨g, k, none⟩ = some (.int .i64 z)) ∧ W.frozen? ⟨g, k, none⟩ = false := by
 obtain ⟨h1, ps, h2, h3, h4⟩ := h
 have hq : q < ps.length := by
  have := (List.getElem?_eq_some_iff.1 hv).1
  rw [← h3, List.length_map] at this
  exact this
 have e1 : ps[q].1 = .slice (some ⟨g, 0, none⟩) n cap := by
  rw [← h3, List.getElem?_map, List.getElem?_eq_getElem hq] at hv
  simpa using hv
 have e2 : ps[q].2.length = n := by
  rw [← h4, List.getElem?_map, List.getElem?_eq_getElem hq] at hn
  simpa using hn
 obtain ⟨p1, p2, p3, p4, p5⟩ := h2.put q hq e1 k (by omega) y
 refine ⟨⟨h1.grown p2 h1.size (fun b e => by injection e with e; omega), _, p1, ?_, ?_⟩, p4, p5⟩
 ·rw [← h3, List.map_set]
  apply List.ext_getElem?
  intro j
  rw [List.getElem?_set]
  split
  ·rename_i e
   subst e
   simp [hq]
  ·rfl
 ·rw [← h4, List.map_set]
  apply List.ext_getElem?
  intro j
  rw [List.getElem?_set]
  split
  ·rename_i e
   subst e
   simp [hq]
  ·rfl
/-- The list's cells. -/
theorem OwnR.cell {W4 : World} {AL cap : Nat} {vs : List Value} {ns : List Nat} {W : World} {L : Nat} (h : OwnR W4 (.slice (some ⟨AL, 0, none⟩) L cap) vs ns W) {q : Nat} {u : Value} (hu : vs[q]? = some u) : W.cell? (Addr.add ⟨AL, 0, none⟩ q) = some u := by
 obtain ⟨h1, ps, h2, h3, h4⟩ := h
 exact h2.1.cells rfl q u (by rw [h3]; exact hu)
/-- What stands in the list. -/
theorem OwnR.form {W4 : World} {av : Value} {vs : List Value} {ns : List Nat} {W : World} (h : OwnR W4 av vs ns W) {q : Nat} {u : Value} {n : Nat} (hu : vs[q]? = some u) (hn : ns[q]? = some n) : (u = .slice none 0 0 ∧ n = 0) ∨ ∃ g cap, u = .slice (some ⟨g, 0, none⟩) n cap := by
 obtain ⟨h1, ps, h2, h3, h4⟩ := h
 have hq : q < ps.length := by
  have := (List.getElem?_eq_some_iff.1 hu).1
  rw [← h3, List.length_map] at this
  exact this
 have e1 : ps[q].1 = u := by
  rw [← h3, List.getElem?_map, List.getElem?_eq_getElem hq] at hu
  simpa using hu
 have e2 : ps[q].2.length = n := by
  rw [← h4, List.getElem?_map, List.getElem?_eq_getElem hq] at hn
  simpa using hn
 have hr := h2.2.1 _ (List.getElem_mem hq)
 rw [e1] at hr
 obtain ⟨_, h | ⟨g, cap, cur, h, _⟩⟩ := hr
 ·exact .inl ⟨h.1, by omega⟩
 ·exact .inr ⟨g, cap, by rw [h, e2]⟩
end Go.Proofs.Ytkjojcepombhpaa.L

/- Plain law: the reference's insert. -/
namespace Go.Proofs.Ytkjojcepombhpaa.L
set_option linter.unusedVariables false
set_option linter.unusedSimpArgs false
open Go.RowKit Go.Proofs.YtkjojcepombhpaaW.PrintWords Go.Proofs.YtkjojcepombhpaaW.PrintLast Go.Proofs.YtkjojcepombhpaaW.PrintMore

def insU (v : Int) : List Int → List Int
 | [] => [v]
 | x :: xs => if v < x then v :: x :: xs else if v = x then x :: xs else x :: insU v xs
theorem insU_mem (v : Int) (xs : List Int) : ∀ y, y ∈ insU v xs ↔ y = v ∨ y ∈ xs := by
 induction xs with
 | nil => intro y; simp [insU]
 | cons x xs ih =>
  intro y
  unfold insU
  split
  ·simp
  ·split
   ·rename_i h; subst h; simp
   ·rw [List.mem_cons, ih, List.mem_cons]
    constructor
    ·rintro (h | h | h) <;> simp [h]
    ·rintro (h | h | h) <;> simp [h]
theorem insU_sorted (v : Int) (xs : List Int) (h : xs.Pairwise (· < ·)) : (insU v xs).Pairwise (· < ·) := by
 induction xs with
 | nil => simp [insU]
 | cons x xs ih =>
  unfold insU
  rw [List.pairwise_cons] at h
  split
  ·rename_i hv
   rw [List.pairwise_cons, List.pairwise_cons]
   refine ⟨fun y hy => ?_, h⟩
   rcases List.mem_cons.1 hy with rfl | hy
   ·exact hv
   ·have := h.1 y hy; omega
  ·split
   ·rw [List.pairwise_cons]; exact h
   ·rename_i h1 h2
    rw [List.pairwise_cons]
    refine ⟨fun y hy => ?_, ih h.2⟩
    rcases (insU_mem v xs y).1 hy with rfl | hy
    ·omega
    ·exact h.1 y hy
theorem insU_length (v : Int) (xs : List Int) : (insU v xs).length ≤ xs.length + 1 := by
 induction xs with
 | nil => simp [insU]
 | cons x xs ih => 
  unfold insU
  split
  ·simp
  ·split
   ·simp
   ·simp only [List.length_cons]; omega
theorem sorted_unique (a b : List Int) (ha : a.Pairwise (· < ·)) (hb : b.Pairwise (· < ·)) (h : ∀ y, y ∈ a ↔ y ∈ b) : a = b := by
 have hp : a.Perm b := (List.perm_ext_iff_of_nodup (ha.imp (fun h e => by omega)) (hb.imp (fun h e => by omega))).2 h
 exact hp.eq_of_pairwise (fun x y _ _ h1 h2 => by omega) ha hb
theorem insert_l0 (xs : List Int) (v : Int) (hl : xs.length ≤ 100000) : ∀ d i : Nat, i + d = xs.length → insU v xs = xs.take i ++ insU v (xs.drop i) → ∃ q b, Ev (fun k => remouldref06_insert.l0 k xs v (i : Int)) (insU v xs, q, b) := by
 intro d
 induction d with
 | zero =>
  intro i hi he
  have e2 : xs.drop i = [] := List.drop_eq_nil_of_le (by omega)
  rw [e2] at he
  refine ⟨(i : Int), true, Ev.step (h := fun _ => some (insU v xs, (i : Int), true)) (fun k => ?_) (Ev.const _)⟩
  rw [remouldref06_insert.l0, if_neg (by omega), if_pos (by omega), if_pos (by omega), Option.bind_some, if_pos (by simp; omega), Option.bind_some, if_pos (by simp; omega), Option.bind_some, Option.bind_some, if_pos (by simp; omega), Int.toNat_natCast, e2, he]
  simp [insU]
 | succ d ih =>
  intro i hi he
  have hg : rd xs (i : Int) = xs[i] := rd_get xs i (by omega)
  have hdr : xs.drop i = xs[i] :: xs.drop (i + 1) := (List.getElem_cons_drop (by omega)).symm
  by_cases h1 : rd xs (i : Int) < v
  ·obtain ⟨q, b, hh⟩ := ih (i + 1) (by omega) (by
    rw [he, hdr]
    have : insU v (xs[i] :: xs.drop (i + 1)) = xs[i] :: insU v (xs.drop (i + 1)) := by
     rw [insU, if_neg (by omega), if_neg (by omega)]
    rw [this, List.take_succ_eq_append_getElem (by omega), List.append_assoc]
    rfl)
   exact ⟨q, b, Ev.step (fun k => by rw [remouldref06_insert.l0, if_pos (by omega), if_pos (by omega), if_pos h1, succ_id i (by omega)]) hh⟩
  ·by_cases h2 : rd xs (i : Int) = v
   ·have e3 : insU v (xs.drop i) = xs.drop i := by
     rw [hdr, insU, if_neg (by omega), if_pos (by omega)]
    rw [e3, List.take_append_drop] at he
    refine ⟨(i : Int), false, Ev.step (h := fun _ => some (insU v xs, (i : Int), false)) (fun k => ?_) (Ev.const _)⟩
    rw [remouldref06_insert.l0, if_pos (by omega), if_pos (by omega), if_neg h1, if_pos h2, he]
   ·have e3 : insU v (xs.drop i) = v :: xs.drop i := by
     rw [hdr, insU, if_pos (by omega)]
    rw [e3] at he
    refine ⟨(i : Int), true, Ev.step (h := fun _ => some (insU v xs, (i : Int), true)) (fun k => ?_) (Ev.const _)⟩
    rw [remouldref06_insert.l0, if_pos (by omega), if_pos (by omega), if_neg h1, if_neg h2, if_pos (by omega), Option.bind_some, if_pos (by simp; omega), Option.bind_some, if_pos (by simp; omega), Option.bind_some, Option.bind_some, if_pos (by simp; omega), Int.toNat_natCast, he]
    simp
theorem insert_f (xs : List Int) (v : Int) (hl : xs.length ≤ 100000) : ∃ q b, Ev (fun k => remouldref06_insert.f k xs v) (insU v xs, q, b) :=
 insert_l0 xs v hl xs.length 0 (by omega) (by simp)
end Go.Proofs.Ytkjojcepombhpaa.L

/- Plain law: the reference's Back. -/
namespace Go.Proofs.Ytkjojcepombhpaa.L
set_option linter.unusedVariables false
set_option linter.unusedSimpArgs false
open Go.RowKit Go.Proofs.YtkjojcepombhpaaW.PrintWords Go.Proofs.YtkjojcepombhpaaW.PrintLast Go.Proofs.YtkjojcepombhpaaW.PrintMore

variable {m : Int} {t p : List Int}
/-- How the reference hands them back. -/
def backRes (l : List Int) : List Int × Bool := if l.any (fun n => !smallB n) then ([], false) else (l, true)
theorem Back_l0 (h : RuleIs m t p) (y : Int) (hy : smallB y = true) : ∀ d i : Nat, (i : Int) + d = m → ∀ out : List Int, out.Pairwise (· < ·) → (∀ n, n ∈ out ↔ n ∈ backTo m t p y i) → (∀ n ∈ out, smallB n = true) → out.length ≤ i →
  Ev (fun k => remouldref06_Back.l0 k y out (i : Int) m t p) (backRes (backW m t p y)) := by
 have hys := (small_iff y).1 hy
 have hm2 := h.m2
 have hm6 := h.m6
 have htl := h.tl
 have hpl := h.pl
 have hmy : -6597069766656 ≤ m * y ∧ m * y ≤ 6597069766656 := by
  refine ⟨?_, ?_⟩
  ·have e1 := Int.mul_le_mul_of_nonneg_left hys.1 (show 0 ≤ m by omega)
   have e2 := Int.mul_le_mul_of_nonneg_right hm6 (show (0 : Int) ≤ 1099511627776 by decide)
   have e : m * -1099511627776 = -(m * 1099511627776) := Int.mul_neg ..
   omega
  ·have e1 := Int.mul_le_mul_of_nonneg_left hys.2 (show 0 ≤ m by omega)
   have e2 := Int.mul_le_mul_of_nonneg_right hm6 (show (0 : Int) ≤ 1099511627776 by decide)
   omega
 intro d
 induction d with
 | zero =>
  intro i hi out ho hmem hsm hlen
  have hout : out = backW m t p y := by
   refine sorted_unique _ _ ho (backW_sorted h y) (fun n => ?_)
   rw [hmem, backTo_mem h (by omega), backW_mem h]
   have := (h.rest n).2
   exact ⟨fun h => h.1, fun h => ⟨h, by omega⟩⟩
  have hany : (backW m t p y).any (fun n => !smallB n) = false := by
   rw [← hout, List.any_eq_false]
   intro n hn
   rw [hsm n hn]; decide
  unfold backRes
  rw [hany, if_neg (by decide), ← hout]
  exact Ev.step (h := fun _ => some (out, true)) (fun k => by rw [remouldref06_Back.l0, if_neg (by omega)]) (Ev.const _)
 | succ d ih =>
  intro i hi out ho hmem hsm hlen
  have ew : wrap64 ((i : Int) + 1) = ((i + 1 : Nat) : Int) := by rw [wrap64_id _ (by omega) (by omega)]; rfl
  obtain ⟨t1, t2, _, p1, p2, _⟩ := h.ok (i : Int) (by omega) (by omega)
  have hsucc := backTo_succ m t p y i
  have hba : backAt m t p y (i : Int) = _ := rfl
  conv at hba => rhs; unfold backAt
  have e1 : wrap64 (wrap64 (m * y) - rd p (i : Int)) = m * y - rd p (i : Int) := by rw [wrap64_id (m * y) (by omega) (by omega), wrap64_id _ (by omega) (by omega)]
  have hq : (((m * y - rd p (i : Int)).tdiv (rd t (i : Int))).natAbs) ≤ (m * y - rd p (i : Int)).natAbs := by rw [Int.natAbs_tdiv]; exact Nat.div_le_self _ _
  have e2 : wrap64 ((m * y - rd p (i : Int)).tdiv (rd t (i : Int))) = (m * y - rd p (i : Int)).tdiv (rd t (i : Int)) := wrap64_id _ (by omega) (by omega)
  have ha0 : ¬ rd t (i : Int) = 0 := by omega
  have hil : (i : Int) < m := by omega
  have hit : (i : Int) < (t.length : Int) := by omega
  have hip : (i : Int) < (p.length : Int) := by omega
  have hi0 : (0 : Int) ≤ (i : Int) := by omega
  -- it does not count
  have hskip : backAt m t p y (i : Int) = none → Ev (fun k => remouldref06_Back.l0 k y out ((i + 1 : Nat) : Int) m t p) (backRes (backW m t p y)) := by
   intro e
   rw [e] at hsucc
   exact ih (i + 1) (by omega) out ho (by rw [hsucc]; exact hmem) hsm (by omega)
  generalize hN : m * y - rd p (i : Int) = N at *
  generalize hA : rd t (i : Int) = a at *
  by_cases h1 : N.tmod a = 0
  ·by_cases h2 : N.tdiv a % m = (i : Int)
   ·rw [if_pos ⟨h1, h2⟩] at hba
    rw [hba] at hsucc
    refine Ev.step (fun k => by rw [remouldref06_Back.l0, if_pos hil, if_pos hi0, if_pos hip, if_pos hit, hA, if_neg ha0, e1, if_pos h1, e2]) (Ev.bind (Ev.of (Rest_f h _)) ?_)
    have hb : (N.tdiv a % m != (i : Int)) = false := by simpa using h2
    rw [hb]
    refine Ev.step (fun k => by rw [remouldref06_Back.j1, if_neg (show ¬ (false = true) by decide), if_pos hi0, if_pos hit, hA, if_neg ha0, e2]) (Ev.bind (Ev.of (large_f _)) ?_)
    cases hsn : smallB (N.tdiv a)
    ·have hany : (backW m t p y).any (fun n => !smallB n) = true := by
      rw [List.any_eq_true]
      refine ⟨N.tdiv a, (backW_mem h).2 ((backAt_is h ⟨hi0, hil⟩).1 hba).1, by rw [hsn]; rfl⟩
     unfold backRes
     rw [hany, if_pos rfl]
     exact Ev.pos rfl (Ev.const _)
    ·obtain ⟨q, b, hins⟩ := insert_f out (N.tdiv a) (by omega)
     refine Ev.neg (by decide) (Ev.bind hins ?_)
     rw [ew]
     refine ih (i + 1) (by omega) _ (insU_sorted _ _ ho) (fun n => ?_) (fun n hn => ?_) ?_
     ·rw [insU_mem, hsucc, hmem]
      simp [or_comm]
     ·rcases (insU_mem _ _ n).1 hn with rfl | hn
      ·exact hsn
      ·exact hsm n hn
     ·have := insU_length (N.tdiv a) out
      show (insU (N.tdiv a) out).length ≤ i + 1
      omega
   ·rw [if_neg (fun h => h2 h.2)] at hba
    have hb : (N.tdiv a % m != (i : Int)) = true := by simpa using h2
    refine Ev.step (fun k => by rw [remouldref06_Back.l0, if_pos hil, if_pos hi0, if_pos hip, if_pos hit, hA, if_neg ha0, e1, if_pos h1, e2]) (Ev.bind (Ev.of (Rest_f h _)) ?_)
    rw [hb]
    exact Ev.step (fun k => by rw [remouldref06_Back.j1, if_pos rfl, ew]) (hskip hba)
  ·rw [if_neg (fun h => h1 h.1)] at hba
   refine Ev.step (h := fun k => remouldref06_Back.j1 k y out (i : Int) N true m t p) (fun k => by rw [remouldref06_Back.l0, if_pos hil, if_pos hi0, if_pos hip, if_pos hit, hA, if_neg ha0, e1, if_neg h1]) ?_
   exact Ev.step (fun k => by rw [remouldref06_Back.j1, if_pos rfl, ew]) (hskip hba)
theorem Back_f (h : RuleIs m t p) (y : Int) (hy : smallB y = true) : Ev (fun k => remouldref06_Back.f k m t p y) (backRes (backW m t p y)) :=
 Back_l0 h y hy m.toNat 0 (by have := h.m2; omega) [] List.Pairwise.nil (fun n => by simp [backTo]) (by simp) (by simp)
end Go.Proofs.Ytkjojcepombhpaa.L

/- Plain law: the reference's Whole. -/
namespace Go.Proofs.Ytkjojcepombhpaa.L
set_option linter.unusedVariables false
set_option linter.unusedSimpArgs false
open Go.RowKit Go.Proofs.YtkjojcepombhpaaW.PrintWords Go.Proofs.YtkjojcepombhpaaW.PrintLast Go.Proofs.YtkjojcepombhpaaW.PrintMore

variable {m : Int} {t p : List Int}
/-- The first i digits of a number, the lowest first. -/
def digW (m c : Int) (i : Nat) : List Int := (List.range i).map fun j => c / powW m j % m
theorem digW_length (m c : Int) (i : Nat) : (digW m c i).length = i := by simp [digW]
theorem digW_succ (m c : Int) (i : Nat) : digW m c (i + 1) = digW m c i ++ [c / powW m i % m] := by simp [digW, List.range_succ]
theorem digW_course (h : RuleIs m t p) (c : Int) (i : Nat) : CourseIs m (digW m c i) := by
 intro r hr
 simp only [digW, List.mem_map, List.mem_range] at hr
 obtain ⟨j, _, rfl⟩ := hr
 exact h.rest _
theorem digW_cons (h : RuleIs m t p) (r c : Int) (hr : 0 ≤ r ∧ r < m) (i : Nat) : digW m (r + m * c) (i + 1) = r :: digW m c i := by
 have hm := h.mpos
 unfold digW
 rw [List.range_succ_eq_map, List.map_cons, List.map_map]
 have e0 : (r + m * c) / powW m 0 % m = r := by
  show (r + m * c) / 1 % m = r
  rw [Int.ediv_one, Int.add_mul_emod_self_left, Int.emod_eq_of_lt hr.1 hr.2]
 rw [e0]
 congr 1
 apply List.map_congr_left
 intro j _
 show (r + m * c) / (m * powW m j) % m = c / powW m j % m
 rw [← Int.ediv_ediv_of_nonneg (by omega), Int.add_mul_ediv_left _ _ (by omega), Int.ediv_eq_zero_of_lt hr.1 hr.2, Int.zero_add]
theorem dig_of (h : RuleIs m t p) : ∀ l : List Int, CourseIs m l → ∃ c, 0 ≤ c ∧ c < powW m l.length ∧ digW m c l.length = l := by
 intro l
 induction l with
 | nil => intro _; exact ⟨0, by decide, Int.zero_lt_one, rfl⟩
 | cons r l ih =>
  intro hl
  obtain ⟨hr, hl⟩ := hl.cons
  obtain ⟨c, c0, c1, hc⟩ := ih hl
  have hm := h.mpos
  refine ⟨r + m * c, ?_, ?_, ?_⟩
  ·have := Int.mul_nonneg (show 0 ≤ m by omega) c0; omega
  ·rw [List.length_cons, powW_succ]
   have := Int.mul_le_mul_of_nonneg_left (show c + 1 ≤ powW m l.length by omega) (show 0 ≤ m by omega)
   rw [Int.mul_add] at this
   omega
  ·rw [List.length_cons, digW_cons h r c hr, hc]
/-- What the reference has found with the courses below c. -/
structure WhInv (m : Int) (t p : List Int) (K : Nat) (c : Int) (out : List Int) : Prop where
 sorted : out.Pairwise (· < ·)
 whole : ∀ y ∈ out, IsWhole m t p K y
 all : ∀ y, IsWhole m t p K y → ∀ c', 0 ≤ c' → c' < c → digW m c' K = remW m t p y K → y ∈ out
 len : (out.length : Int) ≤ c
theorem tdiv_pos {a b : Int} (h : 0 ≤ a) : a.tdiv b = a / b := Int.tdiv_eq_ediv_of_nonneg h
theorem pow_le5 (h : RuleIs m t p) {K : Nat} (hK : K ≤ 5) : powW m K ≤ 7776 := by
 have h1 := powW_le6 h K
 have h2 := pow6_le hK
 have : (6 : Int) ^ 5 = 7776 := by decide
 omega
theorem Whole_l2 (h : RuleIs m t p) {K : Nat} (h0 : 0 < K) (h5 : K ≤ 5) (out : List Int) (total c : Int) (c0 : 0 ≤ c) (c1 : c ≤ 100000) (r : List Int)
  (hr : Ev (fun k => remouldref06_Whole.j3 k K out total c (fixDen (formW m t p (digW m c K)).1 (formW m t p (digW m c K)).2.1 (formW m t p (digW m c K)).2.2 != 1) m t p (fixNum (formW m t p (digW m c K)).1 (formW m t p (digW m c K)).2.1 (formW m t p (digW m c K)).2.2) (fixDen (formW m t p (digW m c K)).1 (formW m t p (digW m c K)).2.1 (formW m t p (digW m c K)).2.2)) r) :
  ∀ d i : Nat, i + d = K → Ev (fun k => remouldref06_Whole.l2 k K out total c (digW m c i) (i : Int) (c / powW m i) m t p) r := by
 intro d
 induction d with
 | zero =>
  intro i hi
  obtain rfl : i = K := by omega
  have hne := form_ne h (digW_course h c i) (fun e => by have := digW_length m c i; rw [e] at this; simp at this; omega)
  have hX := Fixed_f h (digW_course h c i) (by rw [digW_length]; omega)
  unfold fixRes at hX
  rw [if_neg hne] at hX
  exact Ev.step (fun k => by rw [remouldref06_Whole.l2, if_neg (by omega)]) (Ev.bind hX (Ev.pos rfl hr))
 | succ d ih =>
  intro i hi
  have ih := ih (i + 1) (by omega)
  have hm := h.mpos
  have hp := powW_pos h i
  have hq : 0 ≤ c / powW m i := Int.ediv_nonneg c0 (by omega)
  have e1 : Int.tmod (c / powW m i) m = c / powW m i % m := Int.tmod_eq_emod_of_nonneg hq
  have e2 : Int.tdiv (c / powW m i) m = c / powW m (i + 1) := by
   rw [tdiv_pos hq, powW_succ, Int.mul_comm, Int.ediv_ediv_of_nonneg (by omega)]
  rw [digW_succ, ← e1, ← e2] at ih
  have hle : Int.tdiv (c / powW m i) m ≤ c := by
   rw [e2]
   exact Int.ediv_le_self _ c0
  have hge : 0 ≤ Int.tdiv (c / powW m i) m := by
   rw [e2]
   have := powW_pos h (i + 1)
   exact Int.ediv_nonneg c0 (by omega)
  exact Ev.step (fun k => by rw [remouldref06_Whole.l2, if_pos (by omega), if_neg (by omega), if_pos (by rw [digW_length]; omega), succ_id i (by omega), wrap64_id _ (by omega) (by omega)]) ih
theorem Whole_l1 (h : RuleIs m t p) {K : Nat} (h0 : 0 < K) (h5 : K ≤ 5) : ∀ d : Nat, ∀ (c : Int) (out : List Int), 0 ≤ c → c + d = powW m K → WhInv m t p K c out → Ev (fun k => remouldref06_Whole.l1 k K out (powW m K) c m t p) (wholeL m t p K) := by
 have hp5 := pow_le5 h h5
 intro d
 induction d with
 | zero =>
  intro c out c0 hc hI
  refine Ev.step (h := fun _ => some out) (fun k => by rw [remouldref06_Whole.l1, if_neg (by omega)]) (Ev.eqs ?_ (Ev.const _))
  refine sorted_unique _ _ hI.sorted (wholeL_sorted h K) (fun y => ?_)
  rw [wholeL_iff h h0 h5]
  refine ⟨hI.whole y, fun hy => ?_⟩
  obtain ⟨c', c1, c2, c3⟩ := dig_of h _ (remW_course h y K)
  rw [remW_length] at c2 c3
  exact hI.all y hy c' c1 (by omega) c3
 | succ d ih =>
  intro c out c0 hc hI
  have hlen := hI.len
  have ew : wrap64 (c + 1) = c + 1 := wrap64_id _ (by omega) (by omega)
  refine Ev.step (h := fun k => remouldref06_Whole.l2 k K out (powW m K) c [] 0 c m t p) (fun k => by rw [remouldref06_Whole.l1, if_pos (by omega)]) ?_
  have hl2 := Whole_l2 h h0 h5 out (powW m K) c c0 (by omega) (wholeL m t p K) ?_ K 0 (by omega)
  ·rw [show c / powW m 0 = c from Int.ediv_one c] at hl2
   exact hl2
  have hC := digW_course h c K
  have hF := formIn h hC
  rw [digW_length] at hF
  have h20 := pow20_le h5
  have e20 : (20 : Int) ^ 5 = 3200000 := by decide
  have h6 := pow6_pos K
  have hb1 := hF.b1
  have hb2 := hF.b2
  have hnb := fixNum_bound (formW m t p (digW m c K)).1 (formW m t p (digW m c K)).2.1 (formW m t p (digW m c K)).2.2 20000000 (by omega) (by omega) (by omega)
  -- a number that this course gives
  have hgive : ∀ y, IsWhole m t p K y → digW m c K = remW m t p y K → fixNum (formW m t p (digW m c K)).1 (formW m t p (digW m c K)).2.1 (formW m t p (digW m c K)).2.2 = y ∧ fixDen (formW m t p (digW m c K)).1 (formW m t p (digW m c K)).2.1 (formW m t p (digW m c K)).2.2 = 1 := by
   intro y hy e
   rw [e]
   obtain ⟨e1, e2, _⟩ := whole_fix h h0 hy.1.back
   exact ⟨e1, e2⟩
  generalize fixNum (formW m t p (digW m c K)).1 (formW m t p (digW m c K)).2.1 (formW m t p (digW m c K)).2.2 = X at *
  generalize fixDen (formW m t p (digW m c K)).1 (formW m t p (digW m c K)).2.1 (formW m t p (digW m c K)).2.2 = D at *
  -- nothing new
  have hskip : (∀ y, IsWhole m t p K y → digW m c K = remW m t p y K → y ∈ out) → Ev (fun k => remouldref06_Whole.l1 k K out (powW m K) (c + 1) m t p) (wholeL m t p K) := by
   intro hno
   refine ih (c + 1) out (by omega) (by omega) ⟨hI.sorted, hI.whole, fun y hy c' c1 c2 c3 => ?_, by omega⟩
   by_cases e : c' = c
   ·subst e; exact hno y hy c3
   ·exact hI.all y hy c' c1 (by omega) c3
  cases hD : (D != 1)
  ·have hD1 : D = 1 := by simpa using hD
   have hsm : smallB X = true := by simp [smallB, inB]; omega
   refine Ev.step (fun k => by rw [remouldref06_Whole.j3, if_neg (by decide)]) (Ev.bind (Cycle_f h X K hsm (by omega)) ?_)
   obtain ⟨⟨cy, at', e⟩, hcy⟩ : ∃ s, cycleW m t p X K = s := ⟨_, rfl⟩
   rw [hcy]
   simp only
   rw [ew]
   have hno : (e ≠ 0 ∨ (cy.length : Int) ≠ K) → ∀ y, IsWhole m t p K y → digW m c K = remW m t p y K → y ∈ out := by
    intro hor y hy hd
    obtain ⟨e1, _⟩ := hgive y hy hd
    subst e1
    have := whole_cycle hy (Int.le_refl _) (by omega)
    rw [hcy] at this
    simp only [Prod.mk.injEq] at this
    obtain ⟨a1, a2, a3⟩ := this
    rcases hor with hor | hor
    ·exact absurd a3 hor
    ·rw [a1, orbTo_length] at hor; exact absurd rfl hor
   by_cases he : e = 0
   ·subst he
    by_cases hl : (cy.length : Int) = K
    ·refine Ev.pos rfl (Ev.pos hl (Ev.pos (by omega) ?_))
     obtain ⟨hc1, a, hcy2, hmin⟩ := cycle_exact hcy (by omega)
     have hrd : rd cy 0 = iterW m t p a X := by rw [hcy2]; exact orbTo_rd0 _ _ h0
     rw [hrd]
     have hW : IsWhole m t p K (iterW m t p a X) := ⟨hc1.turn a, fun i => by rw [← iterW_add]; exact hmin _⟩
     obtain ⟨q, b, hins⟩ := insert_f out (iterW m t p a X) (by omega)
     refine Ev.bind hins (ih (c + 1) _ (by omega) (by omega) ⟨insU_sorted _ _ hI.sorted, fun y hy => ?_, fun y hy c' c1 c2 c3 => ?_, by have h9 := insU_length (iterW m t p a X) out; show ((insU (iterW m t p a X) out).length : Int) ≤ c + 1; omega⟩)
     ·rcases (insU_mem _ _ y).1 hy with rfl | hy
      ·exact hW
      ·exact hI.whole y hy
     ·rw [insU_mem]
      by_cases e : c' = c
      ·subst e
       obtain ⟨e1, _⟩ := hgive y hy c3
       subst e1
       have h1 := hmin 0
       have h2 := hy.2 a
       have : iterW m t p 0 X = X := rfl
       exact .inl (by omega)
      ·exact .inr (hI.all y hy c' c1 (by omega) c3)
    ·exact Ev.pos rfl (Ev.neg hl (hskip (hno (.inr hl))))
   ·exact Ev.neg he (hskip (hno (.inl he)))
  ·have hD1 : D ≠ 1 := by simpa using hD
   refine Ev.step (h := fun k => remouldref06_Whole.l1 k K out (powW m K) (c + 1) m t p) (fun k => by rw [remouldref06_Whole.j3, if_pos rfl, ew]) (hskip (fun y hy hd => absurd (hgive y hy hd).2 hD1))
theorem Whole_l0 (h : RuleIs m t p) {K : Nat} (h0 : 0 < K) (h5 : K ≤ 5) : ∀ d i : Nat, i + d = K → Ev (fun k => remouldref06_Whole.l0 k K (powW m i) (i : Int) m t p) (wholeL m t p K) := by
 intro d
 induction d with
 | zero =>
  intro i hi
  obtain rfl : i = K := by omega
  have hp := powW_pos h i
  exact Ev.step (h := fun k => remouldref06_Whole.l1 k i [] (powW m i) 0 m t p) (fun k => by rw [remouldref06_Whole.l0, if_neg (by omega)]) (Whole_l1 h h0 h5 (powW m i).toNat 0 [] (by omega) (by omega) ⟨List.Pairwise.nil, by simp, by omega, by simp⟩)
 | succ d ih =>
  intro i hi
  have hp1 := powW_pos h i
  have hp := pow_le5 h (show i + 1 ≤ 5 by omega)
  have hp2 := powW_pos h (i + 1)
  rw [powW_succ, Int.mul_comm] at hp hp2
  have ih := ih (i + 1) (by omega)
  rw [powW_succ, Int.mul_comm] at ih
  exact Ev.step (fun k => by rw [remouldref06_Whole.l0, if_pos (by omega), succ_id i (by omega), wrap64_id _ (by omega) (by omega)]) ih
theorem Whole_f (h : RuleIs m t p) {K : Nat} (h0 : 0 < K) (h5 : K ≤ 5) : Ev (fun k => remouldref06_Whole.f k m t p K) (wholeL m t p K) :=
 Whole_l0 h h0 h5 K 0 (by omega)
end Go.Proofs.Ytkjojcepombhpaa.L

/- WheelOwn (16): the walk, by hand: for every input the law returns true. -/
namespace Go.Proofs.Ytkjojcepombhpaa.L
set_option linter.unusedVariables false
set_option linter.unusedSimpArgs false
open Go.RowKit Go.Shelf Go.Proofs.YtkjojcepombhpaaW.PrintWords Go.Proofs.YtkjojcepombhpaaW.PrintLast Go.Proofs.YtkjojcepombhpaaW.PrintMore

/-- Three rows of the call's own. -/
structure Own3 (W4 : World) (va vb vw : Value) (oa ob wl : List Int) (W : World) : Prop where
 bel : Below W4.heap.size W4 W
 a : RowIs W W4.heap.size va oa
 b : RowIs W W4.heap.size vb ob
 w : RowIs W W4.heap.size vw wl
 ab : Parted va vb
 aw : Parted va vw
 bw : Parted vb vw
theorem Own3.below {W4 : World} {va vb vw : Value} {oa ob wl : List Int} {X Y : World} (h : Own3 W4 va vb vw oa ob wl X) (hb : Below X.heap.size X Y) : Own3 W4 va vb vw oa ob wl Y :=
 ⟨h.bel.trans (hb.mono h.bel.size), h.a.below hb, h.b.below hb, h.w.below hb, h.ab, h.aw, h.bw⟩
theorem parted_of {W W' : World} {B : Nat} {v u : Value} {xs ys : List Int} (h : RowIs W B v xs) (hr : RowIs W' W.heap.size u ys) : Parted v u := fun k e e2 => by
 have := (h.block e).2.1
 have := (hr.block e2).1
 omega
theorem Own3.list {W4 : World} {va vb vw : Value} {oa ob wl : List Int} {W : World} (h : Own3 W4 va vb vw oa ob wl W) : OwnR W4 (.slice (some ⟨W.heap.size, 0, none⟩) 3 3) [va, vb, vw] [oa.length, ob.length, wl.length] (W.alloc (.cells #[va, vb, vw] 22)) := by
 have hb : Below W.heap.size W (W.alloc (.cells #[va, vb, vw] 22)) := below_alloc (Below.refl _ _) _
 refine ⟨h.bel.trans (hb.mono h.bel.size), [(va, oa), (vb, ob), (vw, wl)], ⟨⟨rfl, .inr ⟨W.heap.size, 3, _, rfl, h.bel.size, World.alloc_heap_new W _, Nat.le_refl _, by unfold maxLen; omega, rfl, rfl⟩⟩, ?_, ?_⟩, rfl, rfl⟩
 ·intro q hq
  simp only [List.mem_cons, List.not_mem_nil, or_false] at hq
  rcases hq with rfl | rfl | rfl
  ·exact h.a.below hb
  ·exact h.b.below hb
  ·exact h.w.below hb
 ·simp only [List.pairwise_cons, List.mem_cons, List.not_mem_nil, or_false, forall_eq_or_imp, forall_eq]
  exact ⟨⟨h.ab, h.aw⟩, h.bw, fun _ hh => hh.elim, List.Pairwise.nil⟩

set_option maxRecDepth 100000 in
set_option maxHeartbeats 16000000 in
theorem own_walk (a0 : Int) (A1 : Option Addr) (c1 : Nat) (l1 : List Int) (A2 : Option Addr) (c2 : Nat) (l2 : List Int) (A0 : Option Addr) (c0 : Nat) (l3 : List Int) (w : World) (h1 : Kd.C (Kd.int .i64) w A1 l1.length l1) (hc1 : l1.length ≤ c1) (h2 : Kd.C (Kd.int .i64) w A2 l2.length l2) (hc2 : l2.length ≤ c2) (h3 : Kd.C (Kd.int .i64) w A0 l3.length l3) (hc0 : l3.length ≤ c0)
  (kt : Nat) (m : Int) (T P : List Int) (hkt : remouldlaw06_tame.f kt a0 l1 l2 = some (m, T, P)) (kc : Nat) (cc : List Int) (hkc : remouldlaw06_course.f kc l3 m = some cc) (hru : remouldlaw06_rule.f m T P = some (m, T, P)) (hli : remouldlaw06_list.f cc = some cc)
  (oa ob wl : List Int) (hoa : wheel_Orbit.f m T P 1 3 = some (oa, 0)) (hob : wheel_Back.f m T P 1 = some (ob, 0)) (hwl : wheel_Whole.f m T P 2 = some (wl, 0)) (la : oa.length ≤ 100000) (lb : ob.length ≤ 100000) (lw : wl.length ≤ 100000)
  (s1 s2 : Int) (hst : wheel_Start.f m T P cc = some (s1, s2)) (f1 f2 f3 f4 : Int) (hfo : wheel_Form.f m T P cc = some (f1, f2, f3, f4)) (x1 x2 x3 : Int) (hfx : wheel_Fixed.f m T P cc = some (x1, x2, x3))
  (kb : Nat) (hkb : remouldref06_Back.f kb m T P 1 = some (ob, true)) (kw : Nat) (hkw : remouldref06_Whole.f kw m T P 2 = some wl)
  (k1 k2 k3 k4 k5 : Nat) (i1 : remouldlaw06_ints.f k1 T T = some true) (i2 : remouldlaw06_ints.f k2 P P = some true) (i3 : remouldlaw06_ints.f k3 cc cc = some true) (i4 : remouldlaw06_ints.f k4 ob ob = some true) (i5 : remouldlaw06_ints.f k5 wl wl = some true) :
  Calls Try.prog 16 #[.int .i64 a0, .slice A1 l1.length c1, .slice A2 l2.length c2, .slice A0 l3.length c0] w fun e w' => e = .returned (.bool true) ∧ Below w.heap.size w w' := by
 have HT := Lib.hid (remouldlaw06_tame.calls kt a0 A1 c1 l1 A2 c2 l2 m T P w h1 hc1 h2 hc2 hkt)
 have HL := Lib.hid h3
 have HCR := Lib.hid (fun W hA => remouldlaw06_course.calls kc A0 c0 l3 m cc W hA hc0 hkc)
 have HRL := Lib.hid (fun W A3 c3 A4 c4 hA hcA hB hcB => remouldlaw06_rule.calls m A3 c3 T A4 c4 P m T P W hA hcA hB hcB hru)
 have HLI := Lib.hid (fun W A c hA hcA => remouldlaw06_list.calls A c cc cc W hA hcA hli)
 have HOR := Lib.hid (fun W A3 c3 A4 c4 hA hcA hB hcB => wheel_Orbit.calls m A3 c3 T A4 c4 P 1 3 oa 0 W hA hcA hB hcB hoa)
 have HBK := Lib.hid (fun W A3 c3 A4 c4 hA hcA hB hcB => wheel_Back.calls m A3 c3 T A4 c4 P 1 ob 0 W hA hcA hB hcB hob)
 have HWH := Lib.hid (fun W A3 c3 A4 c4 hA hcA hB hcB => wheel_Whole.calls m A3 c3 T A4 c4 P 2 wl 0 W hA hcA hB hcB hwl)
 have HST := Lib.hid (fun W A3 c3 A4 c4 A c hA hcA hB hcB hC hc => wheel_Start.calls m A3 c3 T A4 c4 P A c cc s1 s2 W hA hcA hB hcB hC hc hst)
 have HFO := Lib.hid (fun W A3 c3 A4 c4 A c hA hcA hB hcB hC hc => wheel_Form.calls m A3 c3 T A4 c4 P A c cc f1 f2 f3 f4 W hA hcA hB hcB hC hc hfo)
 have HFX := Lib.hid (fun W A3 c3 A4 c4 A c hA hcA hB hcB hC hc => wheel_Fixed.calls m A3 c3 T A4 c4 P A c cc x1 x2 x3 W hA hcA hB hcB hC hc hfx)
 have HRB := Lib.hid (fun W A3 c3 A4 c4 hA hcA hB hcB => remouldref06_Back.calls kb m A3 c3 T A4 c4 P 1 ob true W hA hcA hB hcB hkb)
 have HRW := Lib.hid (fun W A3 c3 A4 c4 hA hcA hB hcB => remouldref06_Whole.calls kw m A3 c3 T A4 c4 P 2 wl W hA hcA hB hcB hkw)
 have HI1 := Lib.hid (fun W A c B d hA hcA hB hcB => remouldlaw06_ints.calls k1 A c T B d T true W hA hcA hB hcB i1)
 have HI2 := Lib.hid (fun W A c B d hA hcA hB hcB => remouldlaw06_ints.calls k2 A c P B d P true W hA hcA hB hcB i2)
 have HI3 := Lib.hid (fun W A c B d hA hcA hB hcB => remouldlaw06_ints.calls k3 A c cc B d cc true W hA hcA hB hcB i3)
 have HI4 := Lib.hid (fun W A c B d hA hcA hB hcB => remouldlaw06_ints.calls k4 A c ob B d ob true W hA hcA hB hcB i4)
 have HI5 := Lib.hid (fun W A c B d hA hcA hB hcB => remouldlaw06_ints.calls k5 A c wl B d wl true W hA hcA hB hcB i5)
 clear h1 h2 h3 hkt hkc hru hli hoa hob hwl hst hfo hfx hkb hkw i1 i2 i3 i4 i5
 go_enter Try.func16, Try.ntmps16
 go_wp2_with (first
  | (go_at_call 44; refine HT.out.mono ?_; rintro e w1 ⟨v1, v2, rfl, hr1, hr2, hb⟩; obtain ⟨A3, c3, rfl, hc3, hC3⟩ := Kd.R_reads hr1; obtain ⟨A4, c4, rfl, hc4, hC4⟩ := Kd.R_reads hr2; have HV1 := Lib.hid (LawV.new w w1 m A3 c3 T A4 c4 P hC3 hC4 hb); clear hb hr1 hr2 hC3 hC4; have g0 := HV1.out.rule.cell 0; have g1 := HV1.out.rule.cell 1; have g2 := HV1.out.rule.cell 2; simp only [List.getElem?_toArray, List.getElem?_cons_zero, List.getElem?_cons_succ] at g0 g1 g2)
  | (go_at_call 45; refine (HCR.out _ (Kd.C_below HL.out HV1.out.bel)).mono ?_; rintro e w2 ⟨vc, rfl, hrc, hb⟩; have HV2 := Lib.hid (HV1.out.below hb); obtain ⟨A7, c7, rfl, hc7, hC7⟩ := Kd.R_reads hrc; have HC7 := Lib.hid hC7; clear hb hrc hC7; clear g0 g1 g2; have g0 := HV2.out.rule.cell 0; have g1 := HV2.out.rule.cell 1; have g2 := HV2.out.rule.cell 2; simp only [List.getElem?_toArray, List.getElem?_cons_zero, List.getElem?_cons_succ] at g0 g1 g2)
  | (go_at_call 23; refine (HRL.out _ A3 c3 A4 c4 HV2.out.t hc3 HV2.out.p hc4).mono ?_; rintro e w3 ⟨u1, u2, rfl, hr1, hr2, hb⟩; have HV3 := Lib.hid (HV2.out.below hb); obtain ⟨A8, c8, rfl, hc8, hC8⟩ := Kd.R_reads hr1; obtain ⟨A9, c9, rfl, hc9, hC9⟩ := Kd.R_reads hr2; have HC8 := Lib.hid hC8; have HC9 := Lib.hid hC9; have HC73 := Lib.hid (Kd.C_below HC7.out hb); clear hb hr1 hr2 hC8 hC9; clear g0 g1 g2)
  | (go_at_call 34; refine (HLI.out _ A7 c7 HC73.out hc7).mono ?_; rintro e w4 ⟨vd, rfl, hrd, hb⟩; obtain ⟨A10, c10, rfl, hc10, hC10⟩ := Kd.R_reads hrd; have HV4 := Lib.hid (HV3.out.below hb); have HO4 := Lib.hid (show OwnV w w1.heap.size w4.heap.size m A3 c3 T A4 c4 P A8 c8 A9 c9 A7 A10 cc (w4.alloc (rbox24 m (.slice A8 T.length c8) (.slice A9 P.length c9))) from ⟨HV4.out.below (below_alloc (Below.refl _ _) _), LawV.new w w4 m A8 c8 T A9 c9 P (Kd.C_below HC8.out hb) (Kd.C_below HC9.out hb) HV4.out.bel, Kd.C_alloc (Kd.C_below HC73.out hb) _, Kd.C_alloc hC10 _⟩); clear hb hrd hC10; have g0 := HO4.out.x.rule.cell 0; have g1 := HO4.out.x.rule.cell 1; have g2 := HO4.out.x.rule.cell 2; have q0 := HO4.out.u.rule.cell 0; have q1 := HO4.out.u.rule.cell 1; have q2 := HO4.out.u.rule.cell 2; simp only [List.getElem?_toArray, List.getElem?_cons_zero, List.getElem?_cons_succ] at g0 g1 g2 q0 q1 q2)
  | (go_at_call 24; refine (HOR.out _ A3 c3 A4 c4 HO4.out.x.t hc3 HO4.out.x.p hc4).mono ?_; rintro e w5 ⟨va, rfl, hra, hb⟩; obtain ⟨Aa, ca, rfl, _, _⟩ := Kd.R_reads hra; have HO5 := Lib.hid (HO4.out.below hb); have HRA5 := Lib.hid (show RowIs w5 (w4.alloc (rbox24 m (.slice A8 T.length c8) (.slice A9 P.length c9))).heap.size (.slice Aa oa.length ca) oa from Kd.own_of_R hra); have HB5 := Lib.hid hb; clear hb hra; clear g0 g1 g2 q0 q1 q2; have g0 := HO5.out.x.rule.cell 0; have g1 := HO5.out.x.rule.cell 1; have g2 := HO5.out.x.rule.cell 2; have q0 := HO5.out.u.rule.cell 0; have q1 := HO5.out.u.rule.cell 1; have q2 := HO5.out.u.rule.cell 2; simp only [List.getElem?_toArray, List.getElem?_cons_zero, List.getElem?_cons_succ] at g0 g1 g2 q0 q1 q2)
  | (go_at_call 53; refine (HBK.out _ A3 c3 A4 c4 HO5.out.x.t hc3 HO5.out.x.p hc4).mono ?_; rintro e w6 ⟨vb, rfl, hrb, hb⟩; obtain ⟨Ab, cb, rfl, _, _⟩ := Kd.R_reads hrb; have HO6 := Lib.hid (HO5.out.below hb); have HRA6 := Lib.hid (HRA5.out.below hb); have HRB6 := Lib.hid (show RowIs w6 w5.heap.size (.slice Ab ob.length cb) ob from Kd.own_of_R hrb); have HAB := Lib.hid (parted_of HRA5.out HRB6.out); have HB6 := Lib.hid (HB5.out.trans (hb.mono HB5.out.size)); clear hb hrb; clear g0 g1 g2 q0 q1 q2; have g0 := HO6.out.x.rule.cell 0; have g1 := HO6.out.x.rule.cell 1; have g2 := HO6.out.x.rule.cell 2; have q0 := HO6.out.u.rule.cell 0; have q1 := HO6.out.u.rule.cell 1; have q2 := HO6.out.u.rule.cell 2; simp only [List.getElem?_toArray, List.getElem?_cons_zero, List.getElem?_cons_succ] at g0 g1 g2 q0 q1 q2)
  | (go_at_call 30; refine (HWH.out _ A3 c3 A4 c4 HO6.out.x.t hc3 HO6.out.x.p hc4).mono ?_; rintro e w7 ⟨vw, rfl, hrw, hb⟩; obtain ⟨Aw, cw, rfl, _, _⟩ := Kd.R_reads hrw; have HO7 := Lib.hid (HO6.out.below hb); have hrw' : RowIs w7 w6.heap.size (.slice Aw wl.length cw) wl := Kd.own_of_R hrw; have HR7 := Lib.hid (show Own3 (w4.alloc (rbox24 m (.slice A8 T.length c8) (.slice A9 P.length c9))) (.slice Aa oa.length ca) (.slice Ab ob.length cb) (.slice Aw wl.length cw) oa ob wl w7 from ⟨HB6.out.trans (hb.mono HB6.out.size), HRA6.out.below hb, (HRB6.out.below hb).mono HB5.out.size, hrw'.mono HB6.out.size, HAB.out, parted_of HRA6.out hrw', parted_of HRB6.out hrw'⟩); clear hb hrw hrw'; clear g0 g1 g2 q0 q1 q2; have g0 := HO7.out.x.rule.cell 0; have g1 := HO7.out.x.rule.cell 1; have g2 := HO7.out.x.rule.cell 2; have q0 := HO7.out.u.rule.cell 0; have q1 := HO7.out.u.rule.cell 1; have q2 := HO7.out.u.rule.cell 2; simp only [List.getElem?_toArray, List.getElem?_cons_zero, List.getElem?_cons_succ] at g0 g1 g2 q0 q1 q2)
  | (go_at_call 35; refine (HST.out _ A3 c3 A4 c4 A7 c7 HO7.out.x.t hc3 HO7.out.x.p hc4 HO7.out.c hc7).mono ?_; rintro e w8 ⟨rfl, hb⟩; have HO8 := Lib.hid (HO7.out.below hb); have HR8 := Lib.hid (HR7.out.below hb); clear hb; clear g0 g1 g2 q0 q1 q2; have g0 := HO8.out.x.rule.cell 0; have g1 := HO8.out.x.rule.cell 1; have g2 := HO8.out.x.rule.cell 2; have q0 := HO8.out.u.rule.cell 0; have q1 := HO8.out.u.rule.cell 1; have q2 := HO8.out.u.rule.cell 2; simp only [List.getElem?_toArray, List.getElem?_cons_zero, List.getElem?_cons_succ] at g0 g1 g2 q0 q1 q2)
  | (go_at_call 36; refine (HFO.out _ A3 c3 A4 c4 A7 c7 HO8.out.x.t hc3 HO8.out.x.p hc4 HO8.out.c hc7).mono ?_; rintro e w9 ⟨rfl, hb⟩; have HO9 := Lib.hid (HO8.out.below hb); have HR9 := Lib.hid (HR8.out.below hb); clear hb; clear g0 g1 g2 q0 q1 q2; have g0 := HO9.out.x.rule.cell 0; have g1 := HO9.out.x.rule.cell 1; have g2 := HO9.out.x.rule.cell 2; have q0 := HO9.out.u.rule.cell 0; have q1 := HO9.out.u.rule.cell 1; have q2 := HO9.out.u.rule.cell 2; simp only [List.getElem?_toArray, List.getElem?_cons_zero, List.getElem?_cons_succ] at g0 g1 g2 q0 q1 q2)
  | (go_at_call 37; refine (HFX.out _ A3 c3 A4 c4 A7 c7 HO9.out.x.t hc3 HO9.out.x.p hc4 HO9.out.c hc7).mono ?_; rintro e w10 ⟨rfl, hb⟩; have HO10 := Lib.hid (HO9.out.below hb); have HR10 := Lib.hid (HR9.out.below hb); clear hb; clear g0 g1 g2 q0 q1 q2; have g0 := HO10.out.x.rule.cell 0; have g1 := HO10.out.x.rule.cell 1; have g2 := HO10.out.x.rule.cell 2; have q0 := HO10.out.u.rule.cell 0; have q1 := HO10.out.u.rule.cell 1; have q2 := HO10.out.u.rule.cell 2; simp only [List.getElem?_toArray, List.getElem?_cons_zero, List.getElem?_cons_succ] at g0 g1 g2 q0 q1 q2)
  | (go_at_call 29; with_reducible refine (HI1.out _ A3 c3 A8 c8 HO10.out.x.t hc3 HO10.out.u.t hc8).mono ?_; rintro e w11 ⟨rfl, hd⟩; have HO11 := Lib.hid (HO10.out.below hd.below); have HR11 := Lib.hid (HR10.out.below hd.below); clear hd; clear g0 g1 g2 q0 q1 q2; have g0 := HO11.out.x.rule.cell 0; have g1 := HO11.out.x.rule.cell 1; have g2 := HO11.out.x.rule.cell 2; have q0 := HO11.out.u.rule.cell 0; have q1 := HO11.out.u.rule.cell 1; have q2 := HO11.out.u.rule.cell 2; simp only [List.getElem?_toArray, List.getElem?_cons_zero, List.getElem?_cons_succ] at g0 g1 g2 q0 q1 q2)
  | (go_at_call 29; with_reducible refine (HI2.out _ A4 c4 A9 c9 HO11.out.x.p hc4 HO11.out.u.p hc9).mono ?_; rintro e w12 ⟨rfl, hd⟩; have HO12 := Lib.hid (HO11.out.below hd.below); have HR12 := Lib.hid (HR11.out.below hd.below); clear hd; clear g0 g1 g2 q0 q1 q2; have g0 := HO12.out.x.rule.cell 0; have g1 := HO12.out.x.rule.cell 1; have g2 := HO12.out.x.rule.cell 2; have q0 := HO12.out.u.rule.cell 0; have q1 := HO12.out.u.rule.cell 1; have q2 := HO12.out.u.rule.cell 2; simp only [List.getElem?_toArray, List.getElem?_cons_zero, List.getElem?_cons_succ] at g0 g1 g2 q0 q1 q2)
  | (go_at_call 29; with_reducible refine (HI3.out _ A7 c7 A10 c10 HO12.out.c hc7 HO12.out.d hc10).mono ?_; rintro e w13 ⟨rfl, hd⟩; have HO13 := Lib.hid (HO12.out.below hd.below); have HR13 := Lib.hid (HR12.out.below hd.below); clear hd; clear g0 g1 g2 q0 q1 q2; have g0 := HO13.out.x.rule.cell 0; have g1 := HO13.out.x.rule.cell 1; have g2 := HO13.out.x.rule.cell 2; have q0 := HO13.out.u.rule.cell 0; have q1 := HO13.out.u.rule.cell 1; have q2 := HO13.out.u.rule.cell 2; simp only [List.getElem?_toArray, List.getElem?_cons_zero, List.getElem?_cons_succ] at g0 g1 g2 q0 q1 q2))
 have HL13 := Lib.hid HR13.out.list
 clear g0 g1 g2 q0 q1 q2
 go_loopw [20] (fun i wr => ∃ q : Nat, q ≤ 3 ∧ i = .int .i64 q ∧ OwnR (w4.alloc (rbox24 m (.slice A8 T.length c8) (.slice A9 P.length c9))) (.slice (some ⟨w13.heap.size, 0, none⟩) 3 3) [.slice Aa oa.length ca, .slice Ab ob.length cb, .slice Aw wl.length cw] [oa.length, ob.length, wl.length] wr) (fun i _ => 3 - (intOf i).toNat)
 case atStart => exact ⟨0, Nat.zero_le _, rfl, HL13.out⟩
 case round =>
  obtain ⟨q, hq, rfl, hr⟩ := hrel
  by_cases hlt : q < 3
  ·obtain ⟨u, hu⟩ : ∃ u, [Value.slice Aa oa.length ca, .slice Ab ob.length cb, .slice Aw wl.length cw][q]? = some u := ⟨_, List.getElem?_eq_getElem hlt⟩
   obtain ⟨n, hn⟩ : ∃ n, [oa.length, ob.length, wl.length][q]? = some n := ⟨_, List.getElem?_eq_getElem hlt⟩
   have hnb : n ≤ 100000 := by
    have := List.mem_of_getElem? hn
    simp only [List.mem_cons, List.not_mem_nil, or_false] at this
    rcases this with h | h | h <;> omega
   have HU := Lib.hid hu
   have HN := Lib.hid hn
   have HR := Lib.hid hr
   have b1 : (q : Int) < 3 := by omega
   rcases hr.form hu hn with ⟨rfl, rfl⟩ | ⟨g, cap, rfl⟩
   ·have k1 := hr.cell hu
    rw [add_plain] at k1
    clear hu hn hr
    go_wp2
    refine wp_loop_rounds 1 ?_
    rw [rounds_succ]
    go_wp2
    exact ⟨⟨q + 1, by omega, by go_num, HR.out⟩, by simp [intOf]; omega⟩
   ·clear hu hn hr
    go_wp2
    go_loopw [21] (fun i2 wp => ∃ k : Nat, k ≤ n ∧ i2 = .int .i64 k ∧ OwnR (w4.alloc (rbox24 m (.slice A8 T.length c8) (.slice A9 P.length c9))) (.slice (some ⟨w13.heap.size, 0, none⟩) 3 3) [.slice Aa oa.length ca, .slice Ab ob.length cb, .slice Aw wl.length cw] [oa.length, ob.length, wl.length] wp) (fun i2 _ => n - (intOf i2).toNat)
    case atStart => exact ⟨0, Nat.zero_le _, rfl, HR.out⟩
    case round =>
     obtain ⟨k, hk, rfl, hr⟩ := hrel
     have k1 := hr.cell HU.out
     rw [add_plain] at k1
     by_cases hlt2 : k < n
     ·obtain ⟨p1, ⟨z, p2⟩, p3⟩ := hr.put HU.out HN.out hlt2 (-7)
      have HP := Lib.hid p1
      have b2 : (k : Int) < (n : Int) := by omega
      clear hr p1
      go_wp2
      exact ⟨⟨k + 1, by omega, by go_num, HP.out⟩, by simp [intOf]; omega⟩
     ·obtain rfl : k = n := by omega
      have HP := Lib.hid hr
      clear hr
      go_wp2
      exact ⟨⟨q + 1, by omega, by go_num, HP.out⟩, by simp [intOf]; omega⟩
  ·obtain rfl : q = 3 := by omega
   have HO14 := Lib.hid (HO4.out.below hr.1)
   have g0 := HO14.out.x.rule.cell 0; have g1 := HO14.out.x.rule.cell 1; have g2 := HO14.out.x.rule.cell 2; have q0 := HO14.out.u.rule.cell 0; have q1 := HO14.out.u.rule.cell 1; have q2 := HO14.out.u.rule.cell 2; simp only [List.getElem?_toArray, List.getElem?_cons_zero, List.getElem?_cons_succ] at g0 g1 g2 q0 q1 q2
   clear hr
   as_aux_lemma =>
    go_wp2_with (first
     | (go_at_call 53; refine (HBK.out _ A3 c3 A4 c4 HO14.out.x.t hc3 HO14.out.x.p hc4).mono ?_; rintro e w15 ⟨vy, rfl, hr_, hb⟩; obtain ⟨A11, c11, rfl, hc11, hC_⟩ := Kd.R_reads hr_; have HA11 := Lib.hid hC_; have HO15 := Lib.hid (HO14.out.below hb);  clear hb hr_ hC_; clear g0 g1 g2 q0 q1 q2; have g0 := HO15.out.x.rule.cell 0; have g1 := HO15.out.x.rule.cell 1; have g2 := HO15.out.x.rule.cell 2; have q0 := HO15.out.u.rule.cell 0; have q1 := HO15.out.u.rule.cell 1; have q2 := HO15.out.u.rule.cell 2; simp only [List.getElem?_toArray, List.getElem?_cons_zero, List.getElem?_cons_succ] at g0 g1 g2 q0 q1 q2)
     | (go_at_call 30; refine (HWH.out _ A3 c3 A4 c4 HO15.out.x.t hc3 HO15.out.x.p hc4).mono ?_; rintro e w16 ⟨vz, rfl, hr_, hb⟩; obtain ⟨A12, c12, rfl, hc12, hC_⟩ := Kd.R_reads hr_; have HA12 := Lib.hid hC_; have HO16 := Lib.hid (HO15.out.below hb); have HY16 := Lib.hid (Kd.C_below HA11.out hb); clear hb hr_ hC_; clear g0 g1 g2 q0 q1 q2; have g0 := HO16.out.x.rule.cell 0; have g1 := HO16.out.x.rule.cell 1; have g2 := HO16.out.x.rule.cell 2; have q0 := HO16.out.u.rule.cell 0; have q1 := HO16.out.u.rule.cell 1; have q2 := HO16.out.u.rule.cell 2; simp only [List.getElem?_toArray, List.getElem?_cons_zero, List.getElem?_cons_succ] at g0 g1 g2 q0 q1 q2)
     | (go_at_call 54; refine (HRB.out _ A8 c8 A9 c9 HO16.out.u.t hc8 HO16.out.u.p hc9).mono ?_; rintro e w17 ⟨vk, rfl, hr_, hb⟩; obtain ⟨A13, c13, rfl, hc13, hC_⟩ := Kd.R_reads hr_; have HK17 := Lib.hid hC_; have HO17 := Lib.hid (HO16.out.below hb); have HY17 := Lib.hid (Kd.C_below HY16.out hb); have HZ17 := Lib.hid (Kd.C_below HA12.out hb); clear hb hr_ hC_; clear g0 g1 g2 q0 q1 q2; have g0 := HO17.out.x.rule.cell 0; have g1 := HO17.out.x.rule.cell 1; have g2 := HO17.out.x.rule.cell 2; have q0 := HO17.out.u.rule.cell 0; have q1 := HO17.out.u.rule.cell 1; have q2 := HO17.out.u.rule.cell 2; simp only [List.getElem?_toArray, List.getElem?_cons_zero, List.getElem?_cons_succ] at g0 g1 g2 q0 q1 q2)
     | (go_at_call 29; with_reducible refine (HI1.out _ A3 c3 A8 c8 HO17.out.x.t hc3 HO17.out.u.t hc8).mono ?_; rintro e w18 ⟨rfl, hd⟩; have HO18 := Lib.hid (HO17.out.below hd.below); have HY18 := Lib.hid (Kd.C_below HY17.out hd.below); have HZ18 := Lib.hid (Kd.C_below HZ17.out hd.below); have HK18 := Lib.hid (Kd.C_below HK17.out hd.below); clear hd; clear g0 g1 g2 q0 q1 q2; have g0 := HO18.out.x.rule.cell 0; have g1 := HO18.out.x.rule.cell 1; have g2 := HO18.out.x.rule.cell 2; have q0 := HO18.out.u.rule.cell 0; have q1 := HO18.out.u.rule.cell 1; have q2 := HO18.out.u.rule.cell 2; simp only [List.getElem?_toArray, List.getElem?_cons_zero, List.getElem?_cons_succ] at g0 g1 g2 q0 q1 q2)
     | (go_at_call 29; with_reducible refine (HI2.out _ A4 c4 A9 c9 HO18.out.x.p hc4 HO18.out.u.p hc9).mono ?_; rintro e w19 ⟨rfl, hd⟩; have HO19 := Lib.hid (HO18.out.below hd.below); have HY19 := Lib.hid (Kd.C_below HY18.out hd.below); have HZ19 := Lib.hid (Kd.C_below HZ18.out hd.below); have HK19 := Lib.hid (Kd.C_below HK18.out hd.below); clear hd; clear g0 g1 g2 q0 q1 q2; have g0 := HO19.out.x.rule.cell 0; have g1 := HO19.out.x.rule.cell 1; have g2 := HO19.out.x.rule.cell 2; have q0 := HO19.out.u.rule.cell 0; have q1 := HO19.out.u.rule.cell 1; have q2 := HO19.out.u.rule.cell 2; simp only [List.getElem?_toArray, List.getElem?_cons_zero, List.getElem?_cons_succ] at g0 g1 g2 q0 q1 q2)
     | (go_at_call 29; with_reducible refine (HI4.out _ A11 c11 A13 c13 HY19.out hc11 HK19.out hc13).mono ?_; rintro e w20 ⟨rfl, hd⟩; have HO20 := Lib.hid (HO19.out.below hd.below); have HZ20 := Lib.hid (Kd.C_below HZ19.out hd.below); clear hd; clear g0 g1 g2 q0 q1 q2; have g0 := HO20.out.x.rule.cell 0; have g1 := HO20.out.x.rule.cell 1; have g2 := HO20.out.x.rule.cell 2; have q0 := HO20.out.u.rule.cell 0; have q1 := HO20.out.u.rule.cell 1; have q2 := HO20.out.u.rule.cell 2; simp only [List.getElem?_toArray, List.getElem?_cons_zero, List.getElem?_cons_succ] at g0 g1 g2 q0 q1 q2)
     | (go_at_call 31; refine (HRW.out _ A8 c8 A9 c9 HO20.out.u.t hc8 HO20.out.u.p hc9).mono ?_; rintro e w21 ⟨vq, rfl, hr_, hb⟩; obtain ⟨A14, c14, rfl, hc14, hC_⟩ := Kd.R_reads hr_; have HQ21 := Lib.hid hC_; have HO21 := Lib.hid (HO20.out.below hb); have HZ21 := Lib.hid (Kd.C_below HZ20.out hb); clear hb hr_ hC_; clear g0 g1 g2 q0 q1 q2; have g0 := HO21.out.x.rule.cell 0; have g1 := HO21.out.x.rule.cell 1; have g2 := HO21.out.x.rule.cell 2; have q0 := HO21.out.u.rule.cell 0; have q1 := HO21.out.u.rule.cell 1; have q2 := HO21.out.u.rule.cell 2; simp only [List.getElem?_toArray, List.getElem?_cons_zero, List.getElem?_cons_succ] at g0 g1 g2 q0 q1 q2)
     | (go_at_call 29; with_reducible refine (HI5.out _ A12 c12 A14 c14 HZ21.out hc12 HQ21.out hc14).mono ?_; rintro e w22 ⟨rfl, hd⟩; have HO22 := Lib.hid (HO21.out.below hd.below);  clear hd; clear g0 g1 g2 q0 q1 q2; have g0 := HO22.out.x.rule.cell 0; have g1 := HO22.out.x.rule.cell 1; have g2 := HO22.out.x.rule.cell 2; have q0 := HO22.out.u.rule.cell 0; have q1 := HO22.out.u.rule.cell 1; have q2 := HO22.out.u.rule.cell 2; simp only [List.getElem?_toArray, List.getElem?_cons_zero, List.getElem?_cons_succ] at g0 g1 g2 q0 q1 q2)
     | (go_at_call 27; refine (remouldlaw06_awake.calls 0 true _ rfl).mono ?_; rintro e w23 ⟨rfl, hb⟩; have HO23 := Lib.hid (HO22.out.below hb); clear hb))
    go_ret
    exact ⟨rfl, HO23.out.x.bel⟩
end Go.Proofs.Ytkjojcepombhpaa.L

/- WheelOwn comes to true. -/
namespace Go.Proofs.Ytkjojcepombhpaa.L
set_option linter.unusedVariables false
set_option linter.unusedSimpArgs false
open Go.RowKit Go.Shelf Go.Proofs.YtkjojcepombhpaaW.PrintWords Go.Proofs.YtkjojcepombhpaaW.PrintLast Go.Proofs.YtkjojcepombhpaaW.PrintMore

section
variable {m : Int} {t p : List Int}
theorem back_small (h : RuleIs m t p) {n : Int} (hn : n ∈ backW m t p 1) : smallB n = true := by
 have e := (backW_mem h).1 hn
 have hmul := h.mul n
 rw [e] at hmul
 have h0 := h.rest n
 obtain ⟨t1, t2, _, p1, p2, _⟩ := h.ok (n % m) h0.1 h0.2
 have hm2 := h.m2
 have hm6 := h.m6
 generalize rd t (n % m) = a at *
 generalize rd p (n % m) = b at *
 have b3 : (a * n).natAbs = a.natAbs * n.natAbs := Int.natAbs_mul a n
 have b4 : n.natAbs ≤ a.natAbs * n.natAbs := Nat.le_mul_of_pos_left _ (by omega)
 rw [small_iff]
 omega
theorem orb_own (h : RuleIs m t p) : ∃ oa, orbGo m t p 3 502 [] 1 = some oa ∧ oa.length ≤ 4 := by
 have b1 := h.bound (x := 1) (B := 1000000000) (by omega) (by omega)
 have g : ∀ x : Int, -100000000000 ≤ x ∧ x ≤ 100000000000 → smallB x = true := fun x hx => (small_iff x).2 (by omega)
 have s0 : smallB 1 = true := g 1 (by omega)
 have hx1 : -100 ≤ sentW m t p 1 ∧ sentW m t p 1 ≤ 100 := by
  have := h.bound (x := 1) (B := 1) (by omega) (by omega)
  omega
 have hx2 : -2000 ≤ sentW m t p (sentW m t p 1) ∧ sentW m t p (sentW m t p 1) ≤ 2000 := by
  have := h.bound (x := sentW m t p 1) (B := 100) (by omega) (by omega)
  omega
 have hx3 : -40000 ≤ sentW m t p (sentW m t p (sentW m t p 1)) ∧ sentW m t p (sentW m t p (sentW m t p 1)) ≤ 40000 := by
  have := h.bound (x := sentW m t p (sentW m t p 1)) (B := 2000) (by omega) (by omega)
  omega
 have s1 := g _ (show -100000000000 ≤ sentW m t p 1 ∧ sentW m t p 1 ≤ 100000000000 by omega)
 have s2 := g _ (show -100000000000 ≤ sentW m t p (sentW m t p 1) ∧ sentW m t p (sentW m t p 1) ≤ 100000000000 by omega)
 have s3 := g _ (show -100000000000 ≤ sentW m t p (sentW m t p (sentW m t p 1)) ∧ sentW m t p (sentW m t p (sentW m t p 1)) ≤ 100000000000 by omega)
 rw [orbGo, if_pos s0]
 split
 ·exact ⟨_, rfl, by simp⟩
 rw [orbGo, if_pos s1]
 split
 ·exact ⟨_, rfl, by simp⟩
 rw [orbGo, if_pos s2]
 split
 ·exact ⟨_, rfl, by simp⟩
 rw [orbGo, if_pos s3, if_pos (by simp)]
 exact ⟨_, rfl, by simp⟩
end
theorem wheelOwn_calls (a0 : Int) (A1 : Option Addr) (c1 : Nat) (l1 : List Int) (A2 : Option Addr) (c2 : Nat) (l2 : List Int) (A0 : Option Addr) (c0 : Nat) (l3 : List Int) (w : World) (h1 : Kd.C (Kd.int .i64) w A1 l1.length l1) (hc1 : l1.length ≤ c1) (h2 : Kd.C (Kd.int .i64) w A2 l2.length l2) (hc2 : l2.length ≤ c2) (h3 : Kd.C (Kd.int .i64) w A0 l3.length l3) (hc0 : l3.length ≤ c0) :
  Calls Try.prog 16 #[.int .i64 a0, .slice A1 l1.length c1, .slice A2 l2.length c2, .slice A0 l3.length c0] w fun e w' => e = .returned (.bool true) ∧ Below w.heap.size w w' := by
 obtain ⟨m, T, P, ht, hR⟩ := tame_f a0 l1 l2
 obtain ⟨kt, hkt⟩ := ht.get
 obtain ⟨cc, hce, hcc, hcl⟩ := course_f hR.m2 hR.m6 l3
 obtain ⟨kc, hkc⟩ := hce.get
 have htl := hR.tl
 have hpl := hR.pl
 have hm6 := hR.m6
 have hru : remouldlaw06_rule.f m T P = some (m, T, P) := by rw [rule_f, List.take_of_length_le (by omega), List.take_of_length_le (by omega)]
 have hli : remouldlaw06_list.f cc = some cc := by rw [list_f, List.take_of_length_le (by omega)]
 obtain ⟨oa, ho, hol⟩ := orb_own hR
 have hs1 : smallB 1 = true := (small_iff 1).2 (by omega)
 have hoa : wheel_Orbit.f m T P 1 3 = some (oa, 0) := by
  rw [wheel_Orbit.f, ruleB_of hR, hs1, show inB 3 0 500 = true by decide, if_pos (by rfl), ho]
 have hany : (backW m T P 1).any (fun n => !smallB n) = false := by
  rw [List.any_eq_false]
  intro n hn
  rw [back_small hR hn]
  decide
 have hob : wheel_Back.f m T P 1 = some (backW m T P 1, 0) := by
  rw [wheel_Back_ok hR hs1, hany]
  rfl
 have hbl : (backW m T P 1).length ≤ 100000 := by
  have := backW_length (m := m) (t := T) (p := P) 1
  omega
 have hwl : wheel_Whole.f m T P 2 = some (wholeL m T P 2, 0) := by
  rw [wheel_Whole.f, ruleB_of hR]
  rfl
 have hwb : (wholeL m T P 2).length ≤ 100000 := by
  have := wholeL_length hR (K := 2) (by omega)
  exact Nat.le_trans this (by omega)
 obtain ⟨s1, s2, hst⟩ : ∃ s1 s2, wheel_Start.f m T P cc = some (s1, s2) := ⟨_, _, rfl⟩
 obtain ⟨f1, f2, f3, f4, hfo⟩ : ∃ f1 f2 f3 f4, wheel_Form.f m T P cc = some (f1, f2, f3, f4) := ⟨_, _, _, _, rfl⟩
 obtain ⟨x1, x2, x3, hfx⟩ : ∃ x1 x2 x3, wheel_Fixed.f m T P cc = some (x1, x2, x3) := ⟨_, _, _, rfl⟩
 have hB := Back_f hR 1 hs1
 rw [backRes, hany] at hB
 obtain ⟨kb, hkb⟩ := hB.get
 obtain ⟨kw, hkw⟩ := (Whole_f hR (K := 2) (by omega) (by omega)).get
 have hint : ∀ X : List Int, X.length ≤ 1000000 → ∃ k, remouldlaw06_ints.f k X X = some true := fun X hX => by
  have := ints_f X X hX
  rw [decide_eq_true rfl] at this
  exact this.get
 obtain ⟨k1, i1⟩ := hint T (by omega)
 obtain ⟨k2, i2⟩ := hint P (by omega)
 obtain ⟨k3, i3⟩ := hint cc (by omega)
 obtain ⟨k4, i4⟩ := hint (backW m T P 1) (by omega)
 obtain ⟨k5, i5⟩ := hint (wholeL m T P 2) (by omega)
 exact own_walk a0 A1 c1 l1 A2 c2 l2 A0 c0 l3 w h1 hc1 h2 hc2 h3 hc0 kt m T P hkt kc cc hkc hru hli oa (backW m T P 1) (wholeL m T P 2) hoa hob hwl (by omega) hbl hwb s1 s2 hst f1 f2 f3 f4 hfo x1 x2 x3 hfx kb hkb kw hkw k1 k2 k3 k4 k5 i1 i2 i3 i4 i5
end Go.Proofs.Ytkjojcepombhpaa.L
