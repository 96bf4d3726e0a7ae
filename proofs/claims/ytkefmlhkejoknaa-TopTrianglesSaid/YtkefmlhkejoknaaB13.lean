import Derived.Deep.QuietTactic
import Derived.BigQuiet
import Derived.Test.YtkefmlhkejoknaaXBest

/- The walk of slices.ContainsFunc with even's question: an edge that is not cut. -/
namespace Go.Proofs.Ytkefmlhkejoknaa.L
set_option linter.unusedVariables false
set_option linter.unusedSimpArgs false
open Go.RowKit Go.Shelf Go.Proofs.YtkefmlhkejoknaaW.PrintWords Go.Proofs.YtkefmlhkejoknaaW.PrintLast

set_option maxHeartbeats 1000000 in
theorem uncut_any (n : Int) (A : Option Addr) (c len m : Nat) (s gB sB : Nat) (x : S49) (w : World) (hn : n ≤ 12) (hs : s < 4096) (hx : 0 ≤ x.f0 ∧ x.f0 < n ∧ 0 ≤ x.f1 ∧ x.f1 < n) (hG : Whole w gB 86 #[.int .i64 n, .slice A len c, .map (some m)]) (hS : Whole w sB 90 #[.int .u64 (s : Int)]) :
    Calls Try.prog 105 #[.agg #[.int .i64 x.f0, .int .i64 x.f1, .int .i64 x.f2], .pointer (some ⟨gB, 0, none⟩), .pointer (some ⟨sB, 0, none⟩)] w fun e w' => e = .returned (.bool (!cutB n s x)) ∧ Below w.heap.size w w' := by
  obtain ⟨xa, xb, xc⟩ := x
  obtain ⟨e0, e1, e2, e3⟩ := hx
  dsimp only at e0 e1 e2 e3
  have HG := Lib.hid hG
  have HS := Lib.hid hS
  clear hG hS
  go_enter Try.func105, Try.ntmps105
  go_wp2
  obtain ⟨W1, hW1⟩ : ∃ W1, w.alloc (Obj.cells #[Value.int IntKind.i64 xa, Value.int IntKind.i64 xb, Value.int IntKind.i64 xc] 49) = W1 := ⟨_, rfl⟩
  have G1 := HG.out.alloc (Obj.cells #[Value.int IntKind.i64 xa, Value.int IntKind.i64 xb, Value.int IntKind.i64 xc] 49)
  have S1 := HS.out.alloc (Obj.cells #[Value.int IntKind.i64 xa, Value.int IntKind.i64 xb, Value.int IntKind.i64 xc] 49)
  have E1 := Whole.new w 49 #[Value.int IntKind.i64 xa, Value.int IntKind.i64 xb, Value.int IntKind.i64 xc]
  have B1 := below_alloc (Below.refl w.heap.size w) (Obj.cells #[Value.int IntKind.i64 xa, Value.int IntKind.i64 xb, Value.int IntKind.i64 xc] 49)
  rw [hW1] at G1 S1 E1 B1 ⊢
  have g0 := G1.cell 0
  have g1 := G1.cell 1
  have g2 := G1.cell 2
  have s0 := S1.cell 0
  have x0 := E1.cell 0
  have x1 := E1.cell 1
  simp only [List.getElem?_toArray, List.getElem?_cons_zero, List.getElem?_cons_succ] at g0 g1 g2 x0 x1 s0
  have hltE := E1.lt
  have hltG := G1.lt
  have hltS := S1.lt
  clear hW1
  go_region_held3 (fun w' => w'.cell? ⟨gB, 0, none⟩ = some (.int .i64 n) ∧ w'.cell? ⟨gB, 1, none⟩ = some (.slice A len c) ∧ w'.cell? ⟨gB, 2, none⟩ = some (.map (some m)) ∧ w'.cell? ⟨sB, 0, none⟩ = some (.int .u64 (s : Int)) ∧ w'.cell? ⟨w.heap.size, 0, none⟩ = some (.int .i64 xa) ∧ w'.cell? ⟨w.heap.size, 1, none⟩ = some (.int .i64 xb)) (go_keep)
    (first | (go_at_call 79; refine (has_any n _ m s _ _ rfl hn ?_ ?_ hs).mono ?_; (first | exact e0 | exact e2); (first | exact e1 | exact e3); rintro e w' ⟨rfl, rfl⟩))
  have B3 := (below_alloc (below_alloc B1 (gbox n (.slice A len c) m)) (gbox n (.slice A len c) m)).drew
  go_wp2
  go_ret
  refine ⟨?_, B3⟩
  have key : (!cutB n s ⟨xa, xb, xc⟩) = (hasB n s xa == hasB n s xb) := by simp [cutB, bne]
  rw [key]; rfl

theorem notAny_upTo (n : Int) (s : Nat) (l : List S49) (h : ∀ i, i < l.length → (!cutB n s (rd_T49 l (i : Int))) = false) : (l.all fun e => cutB n s e) = true := by
  rw [List.all_eq_true]
  intro x hx
  obtain ⟨i, hi, rfl⟩ := List.getElem_of_mem hx
  have := h i hi
  simp [rd_T49, List.getElem?_eq_getElem hi] at this
  exact this
theorem notAll_at (n : Int) (s : Nat) (l : List S49) (i : Nat) (hi : i < l.length) (h : (!cutB n s (rd_T49 l (i : Int))) = true) : (l.all fun e => cutB n s e) = false := by
  rw [Bool.eq_false_iff]
  intro hall
  rw [List.all_eq_true] at hall
  have := hall _ (List.getElem_mem hi)
  simp [rd_T49, List.getElem?_eq_getElem hi] at h
  rw [h] at this
  cases this

set_option maxHeartbeats 2000000 in
theorem indexE_any (n : Int) (A : Option Addr) (c m : Nat) (l : List S49) (s gB sB : Nat) (w : World) (hn : n ≤ 12) (hs : s < 4096) (hl : l.length ≤ 40) (hE : EdgesIn n l) (hC : Kd.C k49 w A l.length l) (hG : Whole w gB 86 #[.int .i64 n, .slice A l.length c, .map (some m)]) (hS : Whole w sB 90 #[.int .u64 (s : Int)]) :
    Calls Try.prog 128 #[.slice A l.length c, .func (.func 105) #[] #[.pointer (some ⟨gB, 0, none⟩), .pointer (some ⟨sB, 0, none⟩)]] w fun e w' => (∃ r : Int, e = .returned (.int .i64 r) ∧ decide (0 ≤ r) = !(l.all fun e => cutB n s e)) ∧ Below w.heap.size w w' := by
  have HC := Lib.hid hC
  have HE := Lib.hid hE
  have HG := Lib.hid hG
  have HS := Lib.hid hS
  clear hC hE hG hS
  go_enter Try.func128, Try.ntmps128
  go_wp2
  go_loopw [8] (fun i wr => ∃ k : Nat, k ≤ l.length ∧ i = .int .i64 k ∧ Below w.heap.size w wr ∧ Hid (∀ j, j < k → (!cutB n s (rd_T49 l (j : Int))) = false)) (fun i _ => l.length - (intOf i).toNat)
  case atStart => exact ⟨0, Nat.zero_le _, rfl, Below.refl _ _, Lib.hid (by omega)⟩
  case round =>
    obtain ⟨k, hk, rfl, hB, HN⟩ := hrel
    by_cases hlt : k < l.length
    · obtain ⟨ad, rfl, hc0, hc1, hc2⟩ := at_T49 (Kd.C_below HC.out hB) (k : Int) (by omega) (by omega)
      simp only [Int.toNat_natCast] at hc0 hc1 hc2
      have hx := HE.out k hlt
      have hcall := fun W (hW : Below w.heap.size w W) => uncut_any n (some ad) c l.length m s gB sB (rd_T49 l (k : Int)) W hn hs ⟨hx.1, hx.2.1, hx.2.2.1, hx.2.2.2.1⟩ (HG.out.below hW HG.out.lt) (HS.out.below hW HS.out.lt)
      have hno := HN.out
      have hmore : ∀ b, (!cutB n s (rd_T49 l (k : Int))) = b → b = false → ∀ j, j < k + 1 → (!cutB n s (rd_T49 l (j : Int))) = false := by
        intro b h1 h2 j hj
        by_cases e : j = k
        · subst e; rw [h1, h2]
        · exact hno j (by omega)
      have hend : ∀ b, (!cutB n s (rd_T49 l (k : Int))) = b → b = true → (l.all fun e => cutB n s e) = false := fun b h1 h2 => notAll_at n s l k hlt (by rw [h1, h2])
      generalize hq : (!cutB n s (rd_T49 l (k : Int))) = q at hcall hmore hend
      generalize rd_T49 l (k : Int) = x at hc0 hc1 hc2 hcall hq hx hmore hend
      have HCALL := Lib.hid hcall
      have HMO := Lib.hid (hmore q rfl)
      have HEN := Lib.hid (hend q rfl)
      have HB := Lib.hid hB
      obtain ⟨xa, xb, xc⟩ := x
      dsimp only at hc0 hc1 hc2
      clear hcall hq hno hmore hend hB hx
      cases q
      · go_wp2_with (go_at_call 105; refine (HCALL.out _ HB.out).mono ?_; rintro e w2 ⟨rfl, hb⟩; have HB2 := Lib.hid hb; clear hb)
        exact ⟨⟨k + 1, by omega, by go_num, below_then HB.out HB.out.size HB2.out, Lib.hid (HMO.out (by trivial))⟩, by simp [intOf]; omega⟩
      · go_wp2_with (go_at_call 105; refine (HCALL.out _ HB.out).mono ?_; rintro e w2 ⟨rfl, hb⟩; have HB2 := Lib.hid hb; clear hb)
        exact bodyPost_ret (v := .int .i64 (k : Int)) (by simp [results, Try.results128, go_sem]) rfl ⟨⟨k, rfl, by rw [HEN.out (by trivial)]; simp⟩, below_then HB.out HB.out.size HB2.out⟩
    · obtain rfl : k = l.length := by omega
      have HX := Lib.hid (notAny_upTo n s l HN.out)
      go_wp2
      exact bodyPost_ret (v := .int .i64 (-1)) (by simp [results, Try.results128, go_sem]) rfl ⟨⟨-1, rfl, by rw [HX.out]; rfl⟩, hB⟩

set_option maxHeartbeats 1000000 in
theorem containsE_any (n : Int) (A : Option Addr) (c m : Nat) (l : List S49) (s gB sB : Nat) (w : World) (hn : n ≤ 12) (hs : s < 4096) (hl : l.length ≤ 40) (hE : EdgesIn n l) (hC : Kd.C k49 w A l.length l) (hG : Whole w gB 86 #[.int .i64 n, .slice A l.length c, .map (some m)]) (hS : Whole w sB 90 #[.int .u64 (s : Int)]) :
    Calls Try.prog 104 #[.slice A l.length c, .func (.func 105) #[] #[.pointer (some ⟨gB, 0, none⟩), .pointer (some ⟨sB, 0, none⟩)]] w fun e w' => e = .returned (.bool (!(l.all fun e => cutB n s e))) ∧ Below w.heap.size w w' := by
  have HI := Lib.hid (indexE_any n A c m l s gB sB w hn hs hl hE hC hG hS)
  clear hC hE hG hS
  generalize (!(l.all fun e => cutB n s e)) = q at HI
  go_enter Try.func104, Try.ntmps104
  go_wp2_with (go_at_call 128; refine HI.out.mono ?_; rintro e w2 ⟨⟨r, rfl, hr⟩, hb⟩; have HB := Lib.hid hb; clear hb)
  go_ret
  exact ⟨by rw [← hr]; rfl, HB.out⟩

end Go.Proofs.Ytkefmlhkejoknaa.L

/- The walk of (graph).even: the first proper side that cuts every edge. -/
namespace Go.Proofs.Ytkefmlhkejoknaa.L
set_option linter.unusedVariables false
set_option linter.unusedSimpArgs false
open Go.RowKit Go.Shelf Go.Proofs.YtkefmlhkejoknaaW.PrintWords Go.Proofs.YtkefmlhkejoknaaW.PrintLast
attribute [local go_sem] Oper.semAt_some

theorem whole_own {β : Type} (B : Nat) (t : TypeId) (f : β → Array Value) : Own (fun s W => Whole W B t (f s)) := fun s X Y row hs hg hrow =>
  hs.grown hg (fun e' => by obtain ⟨o, ho, hc⟩ := hrow B e'.symm; rw [show X.heap[B]? = _ from hs] at ho; cases ho; cases hc)

theorem find_sides (want q : Nat → Bool) (k : Nat) (hk : k ≤ 4096) : ((sidesUpTo want k).find? fun x => q x.1).map (·.1) = (List.range k).find? fun s => want s && q s := by
  induction k with
  | zero => rfl
  | succ k ih =>
    have ih' := ih (by omega)
    rw [List.range_succ, List.find?_append, ← ih']
    cases hw : want k
    · rw [sidesUpTo_miss want k hw]
      simp [hw]
    · rw [sidesUpTo_hit want k (by omega) hw, List.find?_append]
      cases hf : (sidesUpTo want k).find? (fun x => q x.1) with
      | some v => simp
      | none => cases hq : q k <;> simp [hw, hq]
theorem even_of_none (n : Int) (l : List S49) (P : Nat) (hP : 2 ^ n.toNat = P) (hp : P ≤ 4096) (h : ∀ x ∈ sidesUpTo (properB n) P, (l.all fun e => cutB n x.1 e) = false) : evenB n l = none := by
  rw [evenB, hP, ← find_sides (properB n) (fun s => l.all fun e => cutB n s e) P hp, List.find?_eq_none.2 (fun x hx => by simp only [h x hx]; decide)]
  rfl
theorem even_of_some (n : Int) (l : List S49) (P k : Nat) (hP : 2 ^ n.toNat = P) (hp : P ≤ 4096) (hk : k ≤ P) (pre : List ASide) (x : ASide) (hpre : pre ++ [x] = sidesUpTo (properB n) k) (h : ∀ y ∈ pre, (l.all fun e => cutB n y.1 e) = false) (hx : (l.all fun e => cutB n x.1 e) = true) : evenB n l = some x.1 := by
  have e1 := find_sides (properB n) (fun s => l.all fun e => cutB n s e) k (by omega)
  rw [← hpre, List.find?_append, List.find?_eq_none.2 (fun y hy => by simp only [h y hy]; decide)] at e1
  simp only [List.find?_cons, hx, Option.none_or, Option.map_some] at e1
  rw [evenB, hP]
  obtain ⟨d, rfl⟩ : ∃ d, P = k + d := ⟨P - k, by omega⟩
  rw [List.range_add, List.find?_append, ← e1]
  rfl

/-- What even comes to. -/
def EvenPost (n : Int) (l : List S49) (w : World) (e : Ending) (w' : World) : Prop :=
  ∃ (s : Nat) (b : Bool), e = .returned (.tuple #[.int .u64 (s : Int), .bool b]) ∧ (b = true → evenB n l = some s ∧ s < 4096) ∧ (b = false → evenB n l = none) ∧ Below w.heap.size w w'

theorem cell_putObj_other (W : World) (D : Nat) (o : Obj) (p : Addr) (h : p.block ≠ D) : (W.putObj D o).cell? p = W.cell? p := by
  simp only [World.cell?, World.putObj_heap_other h]
theorem keepsFrom_below {B : Nat} {W W' : World} (h : Below W.heap.size W W') : KeepsFrom B W W' := KeepsFrom.of_grownBy (grown_of_below h none) (fun j e => by cases e)

/-- The state between two rounds. -/
def EvenIn (n : Int) (l : List S49) (w : World) (gs : Array Value) (pre : List ASide) (W : World) : Prop :=
  (Whole W w.heap.size 86 gs ∧ Whole W (w.heap.size + 1) 90 #[.int .u64 0] ∧ Whole W (w.heap.size + 1 + 1) 4 #[.bool false]) ∧ Below w.heap.size w W ∧ Hid (∀ y ∈ pre, (l.all fun e => cutB n y.1 e) = false)
/-- The state behind the round that has found a side. -/
def EvenOut (n : Int) (l : List S49) (w : World) (co : Code) (pre : List ASide) (W : World) : Prop :=
  co = .ret ∧ ∃ (pre' : List ASide) (x : ASide), pre = pre' ++ [x] ∧ Hid (∀ y ∈ pre', (l.all fun e => cutB n y.1 e) = false) ∧ Hid ((l.all fun e => cutB n x.1 e) = true) ∧ Whole W (w.heap.size + 1) 90 #[.int .u64 (x.1 : Int)] ∧ Whole W (w.heap.size + 1 + 1) 4 #[.bool true] ∧ Below w.heap.size w W
theorem evenIn_own (n : Int) (l : List S49) (w : World) (gs : Array Value) (B : Nat) (hB : w.heap.size ≤ B) : OwnFrom B (EvenIn n l w gs) :=
  fun s X Y row h hg hr => ⟨⟨(whole_own (β := Unit) w.heap.size 86 (fun _ => gs)).from B () X Y row h.1.1 hg hr, (whole_own (β := Unit) _ 90 (fun _ => #[.int .u64 0])).from B () X Y row h.1.2.1 hg hr, (whole_own (β := Unit) _ 4 (fun _ => #[.bool false])).from B () X Y row h.1.2.2 hg hr⟩, ownFrom_below (β := Unit) (Nat.le_refl _) hB () X Y row h.2.1 hg hr, h.2.2⟩
theorem evenOut_own (n : Int) (l : List S49) (w : World) (co : Code) (B : Nat) (hB : w.heap.size ≤ B) : OwnFrom B (EvenOut n l w co) := by
  rintro s X Y row ⟨h0, pre', x, h1, h2, h3, h4, h5, h6⟩ hg hr
  exact ⟨h0, pre', x, h1, h2, h3, (whole_own (β := Unit) _ 90 (fun _ => #[.int .u64 (x.1 : Int)])).from B () X Y row h4 hg hr, (whole_own (β := Unit) _ 4 (fun _ => #[.bool true])).from B () X Y row h5 hg hr, ownFrom_below (β := Unit) (Nat.le_refl _) hB () X Y row h6 hg hr⟩
/-- What a round's assigning comes to. -/
def EvenAx (tm : Nat → ASide → Array Value) (B : Nat) (x : ASide) (a' : Act) (W : World) : Prop := ∃ b, B ≤ b ∧ a' = { tmps := tm b x, defers := [] } ∧ Whole W b 90 #[.int .u64 (x.1 : Int)]
theorem evenAx_own (tm : Nat → ASide → Array Value) (B B' : Nat) (x : ASide) (a' : Act) : OwnFrom B' (fun (_ : Unit) W => EvenAx tm B x a' W) := by
  rintro s X Y row ⟨b, hb, ha, hW⟩ hg hr
  exact ⟨b, hb, ha, (whole_own (β := Unit) b 90 (fun _ => #[.int .u64 (x.1 : Int)])).from B' () X Y row hW hg hr⟩

set_option maxRecDepth 100000 in
set_option maxHeartbeats 4000000 in
theorem even_any (n : Int) (A : Option Addr) (c m : Nat) (l : List S49) (w : World) (hg : graphOk n l = true) (hC : Kd.C k49 w A l.length l) :
    Calls Try.prog 75 #[gv n (.slice A l.length c) m] w (EvenPost n l w) := by
  obtain ⟨h0, hn⟩ := graphOk_n hg
  have hl := graphOk_len hg
  obtain ⟨P, hP⟩ : ∃ P, 2 ^ n.toNat = P := ⟨_, rfl⟩
  have hp := pow_le n h0 hn
  rw [hP] at hp
  have HP := Lib.hid hP
  have HC := Lib.hid hC
  have HG := Lib.hid hg
  have HE := Lib.hid (graphOk_edges hg)
  clear hP hC hg
  refine (callsIn_wide (n := 6)).1 ?_
  refine callsIn_of_wp_marks Try.func75 rfl trivial ?_ rfl
  simp only [Try.ntmps75, List.size_toArray, List.length_cons, List.length_nil, Nat.reduceAdd, Nat.reduceSub, Array.replicate_succ, Array.replicate_zero, List.push_toArray, List.append_toArray, List.nil_append, List.cons_append]
  gi_wp2_with (refine ⟨trivial, ?_⟩; gi_at_call 93; refine (callsIn_wide.2 (sides_any _ _ _ _ _ rfl rfl)).mono ?_; rintro e w' ⟨rfl, rfl⟩)
  have hg1 := (((Whole.new w 86 #[.int .i64 n, .slice A l.length c, .map (some m)]).alloc (.cells #[.int .u64 0] 90)).alloc (.cells #[.bool false] 4))
  have hr1 := (Whole.new (w.alloc (.cells #[.int .i64 n, .slice A l.length c, .map (some m)] 86)) 90 #[.int .u64 0]).alloc (.cells #[.bool false] 4)
  have hr2 := Whole.new ((w.alloc (.cells #[.int .i64 n, .slice A l.length c, .map (some m)] 86)).alloc (.cells #[.int .u64 0] 90)) 4 #[.bool false]
  have hB0 := below_alloc (below_alloc (below_alloc (Below.refl w.heap.size w) (.cells #[.int .i64 n, .slice A l.length c, .map (some m)] 86)) (.cells #[.int .u64 0] 90)) (.cells #[.bool false] 4)
  obtain ⟨W0, hW0⟩ : ∃ W0, (((w.alloc (.cells #[.int .i64 n, .slice A l.length c, .map (some m)] 86)).alloc (.cells #[.int .u64 0] 90)).alloc (.cells #[.bool false] 4)) = W0 := ⟨_, rfl⟩
  have hz0 : W0.heap.size = w.heap.size + 1 + 1 + 1 := by rw [← hW0]; simp only [World.size_alloc]
  simp only [World.size_alloc] at hg1 hr1 hr2
  rw [hW0] at hg1 hr1 hr2 hB0 ⊢
  clear hW0
  have hGx := (Whole.new W0 86 #[.int .i64 n, .slice A l.length c, .map (some m)]).alloc (.cells #[.func (.func 66) #[gv n (.slice A l.length c) m] #[]] 93)
  have hVx := Whole.new (W0.alloc (gbox n (.slice A l.length c) m)) 93 #[.func (.func 66) #[gv n (.slice A l.length c) m] #[]]
  have hB1 := below_alloc (below_alloc hB0 (gbox n (.slice A l.length c) m)) (.cells #[.func (.func 66) #[gv n (.slice A l.length c) m] #[]] 93)
  rw [World.size_alloc] at hVx
  have hg2 := (hg1.alloc (gbox n (.slice A l.length c) m)).alloc (.cells #[.func (.func 66) #[gv n (.slice A l.length c) m] #[]] 93)
  have hr3 := (hr1.alloc (gbox n (.slice A l.length c) m)).alloc (.cells #[.func (.func 66) #[gv n (.slice A l.length c) m] #[]] 93)
  have hr4 := (hr2.alloc (gbox n (.slice A l.length c) m)).alloc (.cells #[.func (.func 66) #[gv n (.slice A l.length c) m] #[]] 93)
  rw [hz0] at hGx hVx
  have hz1 : ((W0.alloc (gbox n (.slice A l.length c) m)).alloc (.cells #[.func (.func 66) #[gv n (.slice A l.length c) m] #[]] 93)).heap.size = w.heap.size + 5 := by simp; omega
  clear hg1 hr1 hr2
  generalize hW1 : (W0.alloc (gbox n (.slice A l.length c) m)).alloc (.cells #[.func (.func 66) #[gv n (.slice A l.length c) m] #[]] 93) = W1 at hGx hVx hB1 hg2 hr3 hr4 hz1 ⊢
  have hseq : SeqStopsK Fence.wide 5 Try.prog 120 #[.pointer (some ⟨w.heap.size + 1 + 1 + 1, 0, none⟩), .pointer (some ⟨w.heap.size + 1 + 1 + 1 + 1, 0, none⟩)] (fun x : ASide => #[.int .u64 (x.1 : Int), .int .i64 (valB n x.1 l)]) (KpG w.heap.size (w.heap.size + 1 + 1 + 1) (w.heap.size + 1 + 1 + 1 + 1)) (fun ys => ys = sidesUpTo (properB n) P) (fun pre => ∃ k, k ≤ P ∧ pre = sidesUpTo (properB n) k) 4096 W1 := by
    intro lp J Jx W hW hJ hJx hY h0'
    refine sides1_in 5 lp (w.heap.size + 1 + 1 + 1) (w.heap.size + 1 + 1 + 1 + 1) w.heap.size n A c m l 66 #[gv n (.slice A l.length c) m] #[] (properB n) J Jx W P HP.out hn h0 hl HE.out ?_ (by have := hB1.size; have := hW.size; omega) (fun W' hb => Kd.C_below HC.out ((hB1.trans (hW.mono hB1.size)).trans hb)) (hGx.below hW hGx.lt) (hVx.below hW hVx.lt) hJ hY h0'
    exact proper_want n _ _ _ _ rfl hn h0
  refine wpIn_rangeFunc_ownH rfl (by omega) (gf := 120) (lb := #[.pointer (some ⟨w.heap.size + 1 + 1 + 1, 0, none⟩), .pointer (some ⟨w.heap.size + 1 + 1 + 1 + 1, 0, none⟩)]) rfl trivial (enters_of Try.func120 (by kernel_rfl) rfl) hseq (fun h k => KpG_t h k) (KpG_b (by have := hB1.size; omega)) (Below.refl _ _) (fun _ => rfl)
    (EvenIn n l w #[.int .i64 n, .slice A l.length c, .map (some m)]) (EvenOut n l w) (evenIn_own _ _ _ _ _ hB1.size) (fun co => evenOut_own _ _ _ co _ hB1.size) ⟨⟨hg2, hr3, hr4⟩, hB1, Lib.hid (by intro y hy; cases hy)⟩
    (EvenAx (fun b x => #[gv n (.slice A l.length c) m, .pointer (some ⟨w.heap.size, 0, none⟩), .pointer (some ⟨w.heap.size + 1, 0, none⟩), .pointer (some ⟨w.heap.size + 1 + 1, 0, none⟩), .pointer (some ⟨b, 0, none⟩), undef, .agg #[.int .i64 n, .slice A l.length c, .map (some m)], .agg #[.int .i64 n, .slice A l.length c, .map (some m)], .func (.func 66) #[.agg #[.int .i64 n, .slice A l.length c, .map (some m)]] #[], .func (.func 120) #[] #[.pointer (some ⟨w.heap.size + 1 + 1 + 1, 0, none⟩), .pointer (some ⟨w.heap.size + 1 + 1 + 1 + 1, 0, none⟩)], .int .u64 (x.1 : Int), .int .i64 (valB n x.1 l), undef, undef, undef, undef, undef, undef, undef]) 0) (fun x a' => evenAx_own _ _ _ x a') ?assign ?body ?done ?stop
  case assign =>
    rintro lp pre x W K ⟨⟨b1, b2, b3⟩, hB, hN⟩ hK
    gi_wp2
    have hbel : Below W.heap.size W (W.alloc (.cells #[.int .u64 (x.1 : Int)] 90)) := below_alloc (Below.refl _ _) _
    exact hK _ _ (keepsFrom_below hbel) (KpG.of_below hbel hB.size) ⟨⟨b1.alloc _, b2.alloc _, b3.alloc _⟩, below_alloc hB _, hN⟩ ⟨_, Nat.zero_le _, rfl, Whole.new _ _ _⟩
  case body =>
    rintro lp pre x a' W hlp hrec ⟨⟨b1, b2, b3⟩, hB, hN⟩ ⟨b, hb, rfl, b4⟩ hlt
    have hcall := containsE_any n A c m l x.1 w.heap.size b W hn x.2 hl HE.out (Kd.C_below HC.out hB) b1 b4
    have hno : ∀ q, (l.all fun e => cutB n x.1 e) = q → q = false → ∀ y ∈ pre ++ [x], (l.all fun e => cutB n y.1 e) = false := by
      intro q h1 h2 y hy
      rcases List.mem_append.1 hy with h | h
      · exact hN.out y h
      · rw [List.mem_singleton] at h; subst h; rw [h1, h2]
    have hyes : ∀ q, (l.all fun e => cutB n x.1 e) = q → q = true → (l.all fun e => cutB n x.1 e) = true := fun q h1 h2 => h1.trans h2
    generalize hq : (l.all fun e => cutB n x.1 e) = q at hcall
    have HNO := Lib.hid (hno q hq)
    have HYES := Lib.hid (hyes q hq)
    have HCALL := Lib.hid hcall
    have g1 := b1.cell 1
    have s0 := b4.cell 0
    simp only [List.getElem?_toArray, List.getElem?_cons_zero, List.getElem?_cons_succ] at g1 s0
    have HB := Lib.hid hB
    have B1 := Lib.hid b1
    have B2 := Lib.hid b2
    have B3 := Lib.hid b3
    have B4 := Lib.hid b4
    have hltb := b4.lt
    have hlt0 := b1.lt
    have hlt1 := b2.lt
    have hlt2 := b3.lt
    have HN' := hN
    clear hcall hq hno hyes hB b1 b2 b3 b4 hrec
    gi_wp2_with fail
    refine ⟨trivial, ((callsIn_wide.2 HCALL.out).inRound lp).mono ?_⟩
    rintro e W2 ⟨rfl, hb2⟩
    have hsz2 := hb2.size
    have hszW := HB.out.size
    have b1' := B1.out.below hb2 hlt0
    have b2' := B2.out.below hb2 hlt1
    have b3' := B3.out.below hb2 hlt2
    have b4' := B4.out.below hb2 hltb
    have s0' := b4'.cell 0
    simp only [List.getElem?_toArray, List.getElem?_cons_zero, List.getElem?_cons_succ] at s0'
    have f2 := b2'.frozen
    have f3 := b3'.frozen
    have c2 := b2'.cell 0
    have c3 := b3'.cell 0
    simp only [List.getElem?_toArray, List.getElem?_cons_zero, List.getElem?_cons_succ] at c2 c3
    have hlt2' := b3'.lt
    have hlt1' := b2'.lt
    have B12 := Lib.hid b1'
    have B22 := Lib.hid b2'
    have B32 := Lib.hid b3'
    have HB2 := Lib.hid (below_then HB.out hszW hb2)
    have HKF := Lib.hid (keepsFrom_below (B := W1.heap.size) hb2)
    have HKP := Lib.hid (KpG.of_below (g1 := w.heap.size + 1 + 1 + 1) (g2 := w.heap.size + 1 + 1 + 1 + 1) hb2 hszW)
    clear hb2 b1' b2' b3' b4'
    cases q
    · gi_wp2
      exact ⟨HKF.out, HKP.out, ⟨B12.out, B22.out, B32.out⟩, HB2.out, Lib.hid (HNO.out (by trivial))⟩
    · gi_wp2
      refine ⟨(HKF.out.trans ((KeepsOthers.setCell _ _ _).from _)).trans ((KeepsOthers.setCell _ _ _).from _), rfl, pre, x, rfl, HN', Lib.hid (HYES.out (by trivial)), ?_, ?_, ?_⟩
      · exact (B22.out.set 0 _).far (by show w.heap.size + 1 ≠ w.heap.size + 1 + 1; omega) _
      · exact (B32.out.far (by show w.heap.size + 1 + 1 ≠ w.heap.size + 1; omega) _).set 0 _
      · exact Below.setAt (Below.setAt HB2.out (b := w.heap.size + 1) (by omega) 0 _) (b := w.heap.size + 1 + 1) (by omega) 0 _
  case done =>
    rintro D ys W hD rfl ⟨⟨b1, b2, b3⟩, hB, hN⟩ hK
    have HEV := Lib.hid (even_of_none n l P HP.out hp hN.out)
    have f2 := b2.frozen
    have f3 := b3.frozen
    have c2 := b2.cell 0
    have c3 := b3.cell 0
    simp only [List.getElem?_toArray, List.getElem?_cons_zero, List.getElem?_cons_succ] at c2 c3
    gi_wp2
    have b2' := (b2.set 0 (.int .u64 0)).far (p := ⟨w.heap.size + 1 + 1, 0, none⟩) (by show w.heap.size + 1 ≠ w.heap.size + 1 + 1; omega) (.bool false)
    have b3' := (b3.far (p := ⟨w.heap.size + 1, 0, none⟩) (by show w.heap.size + 1 + 1 ≠ w.heap.size + 1; omega) (.int .u64 0)).set 0 (.bool false)
    have hB2 := Below.setAt (Below.setAt hB (b := w.heap.size + 1) (by omega) 0 (.int .u64 0)) (b := w.heap.size + 1 + 1) (by omega) 0 (.bool false)
    have hKK : ((W.setCell ⟨w.heap.size + 1, 0, none⟩ (.int .u64 0)).setCell ⟨w.heap.size + 1 + 1, 0, none⟩ (.bool false)).heap[D]? = some (.deferred (some [])) :=
      ((Below.heap_setCell _ _ _ D (by show D ≠ w.heap.size + 1 + 1; omega)).trans (Below.heap_setCell _ _ _ D (by show D ≠ w.heap.size + 1; omega))).trans hK
    have d2 := b2'.cell 0
    have d3 := b3'.cell 0
    simp only [List.setIfInBounds_toArray, List.set_cons_zero, List.getElem?_toArray, List.getElem?_cons_zero, List.getElem?_cons_succ] at d2 d3
    generalize (W.setCell ⟨w.heap.size + 1, 0, none⟩ (.int .u64 0)).setCell ⟨w.heap.size + 1 + 1, 0, none⟩ (.bool false) = W9 at d2 d3 hKK hB2 ⊢
    have e2 : (W9.putObj D (.deferred none)).cell? ⟨w.heap.size + 1, 0, none⟩ = some (.int .u64 0) := by
      rw [← d2]; exact cell_putObj_other W9 D _ _ (by show w.heap.size + 1 ≠ D; omega)
    have e3 : (W9.putObj D (.deferred none)).cell? ⟨w.heap.size + 1 + 1, 0, none⟩ = some (.bool false) := by
      rw [← d3]; exact cell_putObj_other W9 D _ _ (by show w.heap.size + 1 + 1 ≠ D; omega)
    refine ⟨by simp, .inl ⟨_, _, rfl, run_takeDeferred hKK, ?_⟩⟩
    exact ⟨.tuple #[.int .u64 0, .bool false], by simp [results, Try.results75, go_sem, e2, e3], 0, false, rfl, (by intro h; cases h), fun _ => HEV.out, Below.putObj hB2 (by omega) _⟩
  case stop =>
    rintro D co pre W hD ⟨k, hk, hpre⟩ ⟨rfl, pre', x, rfl, h2, h3, b2, b3, hB⟩ hK
    have HEV := Lib.hid (even_of_some n l P k HP.out hp hk pre' x hpre h2.out h3.out)
    have c2 := b2.cell 0
    have c3 := b3.cell 0
    simp only [List.getElem?_toArray, List.getElem?_cons_zero, List.getElem?_cons_succ] at c2 c3
    gi_wp2
    refine ⟨by simp, .inl ⟨_, _, rfl, run_takeDeferred hK, ?_⟩⟩
    have e2 : (W.putObj D (.deferred none)).cell? ⟨w.heap.size + 1, 0, none⟩ = some (.int .u64 (x.1 : Int)) := by
      rw [← c2]; exact cell_putObj_other W D _ _ (by show w.heap.size + 1 ≠ D; omega)
    have e3 : (W.putObj D (.deferred none)).cell? ⟨w.heap.size + 1 + 1, 0, none⟩ = some (.bool true) := by
      rw [← c3]; exact cell_putObj_other W D _ _ (by show w.heap.size + 1 + 1 ≠ D; omega)
    exact ⟨.tuple #[.int .u64 (x.1 : Int), .bool true], by simp [results, Try.results75, go_sem, e2, e3], x.1, true, rfl, fun _ => ⟨HEV.out, x.2⟩, (by intro h; cases h), Below.putObj hB (by omega) _⟩

theorem even_no (n : Int) (A : Option Addr) (c m : Nat) (l : List S49) (w : World) (hg : graphOk n l = true) (hC : Kd.C k49 w A l.length l) (hv : evenB n l = none) :
    Calls Try.prog 75 #[gv n (.slice A l.length c) m] w fun e w' => (∃ s : Nat, e = .returned (.tuple #[.int .u64 (s : Int), .bool false])) ∧ Below w.heap.size w w' := by
  refine (even_any n A c m l w hg hC).mono ?_
  rintro e w' ⟨s, b, rfl, ht, hf, hb⟩
  cases b
  · exact ⟨⟨s, rfl⟩, hb⟩
  · rw [(ht rfl).1] at hv; cases hv
theorem even_yes (n : Int) (A : Option Addr) (c m : Nat) (l : List S49) (s : Nat) (w : World) (hg : graphOk n l = true) (hC : Kd.C k49 w A l.length l) (hv : evenB n l = some s) :
    Calls Try.prog 75 #[gv n (.slice A l.length c) m] w fun e w' => e = .returned (.tuple #[.int .u64 (s : Int), .bool true]) ∧ s < 4096 ∧ Below w.heap.size w w' := by
  refine (even_any n A c m l w hg hC).mono ?_
  rintro e w' ⟨s', b, rfl, ht, hf, hb⟩
  cases b
  · rw [hf rfl] at hv; cases hv
  · rw [(ht rfl).1] at hv; cases hv; exact ⟨rfl, (ht rfl).2, hb⟩

end Go.Proofs.Ytkefmlhkejoknaa.L
