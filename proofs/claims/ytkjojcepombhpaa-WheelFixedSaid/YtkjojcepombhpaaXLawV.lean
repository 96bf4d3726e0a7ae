/- The rule that a law has made, in later worlds. -/
import Derived.Test.YtkjojcepombhpaaN8
namespace Go.Proofs.Ytkjojcepombhpaa.L
set_option linter.unusedVariables false
set_option linter.unusedSimpArgs false
open Go.RowKit Go.Shelf Go.Proofs.YtkjojcepombhpaaW.PrintWords Go.Proofs.YtkjojcepombhpaaW.PrintLast Go.Proofs.YtkjojcepombhpaaW.PrintMore

/-- Block R of W is the variable that holds the rule; nothing below w's end has turned. -/
structure LawV (w : World) (R : Nat) (m : Int) (A3 : Option Addr) (c3 : Nat) (T : List Int) (A4 : Option Addr) (c4 : Nat) (P : List Int) (W : World) : Prop where
  rule : Whole W R 24 #[.int .i64 m, .slice A3 T.length c3, .slice A4 P.length c4]
  t : Kd.C (Kd.int .i64) W A3 T.length T
  p : Kd.C (Kd.int .i64) W A4 P.length P
  bel : Below w.heap.size w W
theorem LawV.below {w : World} {R : Nat} {m : Int} {A3 : Option Addr} {c3 : Nat} {T : List Int} {A4 : Option Addr} {c4 : Nat} {P : List Int} {X Y : World} (h : LawV w R m A3 c3 T A4 c4 P X) (hb : Below X.heap.size X Y) : LawV w R m A3 c3 T A4 c4 P Y :=
  ⟨h.rule.below hb h.rule.lt, Kd.C_below h.t hb, Kd.C_below h.p hb, h.bel.trans (hb.mono h.bel.size)⟩
theorem LawV.new (w w1 : World) (m : Int) (A3 : Option Addr) (c3 : Nat) (T : List Int) (A4 : Option Addr) (c4 : Nat) (P : List Int) (h3 : Kd.C (Kd.int .i64) w1 A3 T.length T) (h4 : Kd.C (Kd.int .i64) w1 A4 P.length P) (hb : Below w.heap.size w w1) :
    LawV w w1.heap.size m A3 c3 T A4 c4 P (w1.alloc (rbox24 m (.slice A3 T.length c3) (.slice A4 P.length c4))) :=
  ⟨Whole.new w1 24 _, Kd.C_alloc h3 _, Kd.C_alloc h4 _, below_alloc hb _⟩
section
variable {P : Program} {ops : Array Oper} {md : Region.Mode} {Q : Exit → Act → World → Prop}
/-- An operation taken first, the frame written out anew. -/
theorem takeL {i : Nat} {oi : Oper} {v : Value} {fuel : Nat} {listed : Array Bool} {a a' : Act} {w : World} (hi : ops[i]? = some oi)
    (hs : Region.noSelect ops = true) (hf : Region.free md ops listed i = true) (hr : (Region.ready md ops listed).contains i = true)
    (hQ : ∀ c a w, Q (.panic c) (a.put oi.dst v) w → Q (.panic c) a w) (hy : Yields P ops oi v a) (ha : a.put oi.dst v = a')
    (h : wpAny P md ops Q fuel (listed.setIfInBounds i true) a' w) : wpAny P md ops Q (fuel + 1) listed a w := by
  subst ha
  exact wpAny_take hi hs hf hr hQ hy h
end
end Go.Proofs.Ytkjojcepombhpaa.L
