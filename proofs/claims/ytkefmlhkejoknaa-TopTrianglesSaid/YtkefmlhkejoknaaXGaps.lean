/- gauge.Gaps at 5. -/
import Derived.Test.YtkefmlhkejoknaaXRung
import Derived.Test.YtkefmlhkejoknaaL35
import Derived.RangeFuncNested
-- half indentation
namespace Go.Proofs.Ytkefmlhkejoknaa.L
set_option linter.unusedVariables false
set_option linter.unusedSimpArgs false
open Go.RowKit Go.Shelf Go.Proofs.YtkefmlhkejoknaaW.PrintWords Go.Proofs.YtkefmlhkejoknaaW.PrintLast Go.Proofs.YtkefmlhkejoknaaW.PrintMore
attribute [local go_sem] Oper.semAt_some

abbrev AGold := Int × Int
abbrev goldV (x : AGold) : Value := .agg #[.int .i64 x.1, .int .i64 x.2]
def rungL (k : Nat) : List AGold := (List.range k).map rungW
theorem rungL_succ (k : Nat) : rungL (k + 1) = rungL k ++ [rungW k] := by simp [rungL, List.range_succ]
theorem rungL_len (k : Nat) : (rungL k).length = k := by simp [rungL]

set_option maxRecDepth 100000 in
set_option maxHeartbeats 2000000 in
theorem rungs1_in (d : Nat) (lp gB : Nat) (J Jx : List AGold → World → Prop) (W : World) (hG : Whole W gB 3 #[.int .i64 6])
  (hAb : AbidesFrom W.heap.size J)
  (hY : ∀ pre x W1, J pre W1 → pre.length < 6 → YieldAt Fence.wide (d - 1) Try.prog lp #[goldV x] W1 fun e W' =>
   (e = .returned (.bool true) ∧ J (pre ++ [x]) W' ∧ True) ∨ (e = .returned (.bool false) ∧ Jx (pre ++ [x]) W'))
  (hJ : J [] W) :
  CallsIn Fence.wide d Try.prog 152 #[.func (.yield lp) #[] #[], .pointer (some ⟨gB, 0, none⟩)] W fun e W' => (∃ v, e = .returned v) ∧ ((∃ ys, ys = rungL 6 ∧ J ys W') ∨ (∃ pre, True ∧ Jx pre W')) := by
 have HA := Lib.hid hAb
 have HY := Lib.hid hY
 clear hAb hY
 have g0 := hG.cell 0
 simp only [List.getElem?_toArray, List.getElem?_cons_zero] at g0
 clear hG
 refine callsIn_of_wp Try.func152 rfl trivial ?_ rfl
 simp only [Try.ntmps152, List.size_toArray, List.length_cons, List.length_nil, Nat.reduceAdd, Nat.reduceSub, Array.replicate_succ, Array.replicate_zero, List.push_toArray, List.append_toArray, List.nil_append, List.cons_append]
 gi_wp2
 gi_loopw [5] (fun i wr => ∃ k : Nat, k ≤ 6 ∧ i = .int .i64 (k : Int) ∧ J (rungL k) wr) (fun i _ => 6 - (intOf i).toNat)
 case atStart => exact ⟨0, Nat.zero_le _, rfl, hJ⟩
 case round =>
  obtain ⟨k, hk, rfl, hJk⟩ := hrel
  by_cases hlt : k < 6
  ·have hltI : (k : Int) < 6 := by omega
   have HCALL := Lib.hid (rung_val k (by omega) wr)
   gi_wp2_with fail
   refine ⟨trivial, fun h => absurd h (by decide), (callsIn_wide.2 HCALL.out).mono ?_⟩
   rintro e w1 ⟨rfl, hb⟩
   have hJ1 := HA.out _ _ _ none hJk (grown_of_below hb none) (fun r e => by cases e)
   clear hb HCALL
   have hYk := HY.out (rungL k) (rungW k) w1 hJ1 (by rw [rungL_len]; exact hlt)
   rw [← rungL_succ] at hYk
   generalize rungW k = x at hYk
   obtain ⟨x1, x2⟩ := x
   obtain ⟨fn, tmps, assign, body, hy, hR⟩ := hYk

   clear hJ1
   gi_wp2
   refine ⟨fun h => absurd h (by decide), hR.mono ?_⟩
   rintro e w3 (⟨rfl, hJ3, _⟩ | ⟨rfl, hJx3⟩)
   ·have HJ3 := Lib.hid hJ3
    clear hJ3
    gi_wp2
    exact ⟨⟨k + 1, by omega, by go_num, HJ3.out⟩, by simp [intOf]; omega⟩
   ·have HJ3 := Lib.hid hJx3
    clear hJx3
    gi_wp2
    refine bodyPost_ret (results_none rfl _ _ _) rfl ?_
    exact ⟨⟨_, rfl⟩, .inr ⟨_, trivial, HJ3.out⟩⟩
  ·obtain rfl : k = 6 := by omega
   gi_wp2
   go_end0
   exact ⟨⟨_, rfl⟩, .inl ⟨_, rfl, hJk⟩⟩
set_option maxHeartbeats 1000000 in
theorem rungs_any (n : Int) (w : World) : Calls Try.prog 133 #[.int .i64 n] w fun e w' => e = .returned (.func (.func 152) #[] #[.pointer (some ⟨w.heap.size, 0, none⟩)]) ∧ w.alloc (.cells #[.int .i64 n] 3) = w' := by
 go_enter Try.func133, Try.ntmps133
 go_wp2
 go_ret
 exact ⟨rfl, rfl⟩

/-- One value more of the ladder: the letters and the last one. -/
def gapStep (s : ByteArray × AGold) (x : AGold) : ByteArray × AGold :=
 (if x = (0, 0) then s.1 else if x = (wrap64 (s.2.1 + 1), wrap64 (s.2.2 + 0)) then s.1 ++ (⟨#[76]⟩ : ByteArray) else s.1 ++ (⟨#[83]⟩ : ByteArray), x)
def gapL (pre : List AGold) : ByteArray × AGold := pre.foldl gapStep (⟨#[]⟩, (-1, 0))
theorem gapL_snoc (pre : List AGold) (x : AGold) : gapL (pre ++ [x]) = gapStep (gapL pre) x := by simp [gapL]
theorem gapL_size (pre : List AGold) : (gapL pre).1.size ≤ pre.length := by
 have key : ∀ (l : List AGold) (s : ByteArray × AGold), (l.foldl gapStep s).1.size ≤ s.1.size + l.length := by
  intro l
  induction l with
  | nil => intro s; simp
  | cons x l ih =>
   intro s
   have h1 := ih (gapStep s x)
   have h2 : (gapStep s x).1.size ≤ s.1.size + 1 := by
    unfold gapStep
    dsimp only
    split
    ·omega
    ·split <;> (rw [ByteArray.size_append]; exact Nat.le_refl _)
   simp only [List.foldl_cons, List.length_cons]
   omega
 have := key pre (⟨#[]⟩, (-1, 0))
 exact Nat.le_trans this (by rw [show (⟨#[]⟩ : ByteArray).size = 0 from rfl, Nat.zero_add]; exact Nat.le_refl _)
/-- The state between two rounds. -/
def GapIn (w : World) (pre : List AGold) (W : World) : Prop :=
 (Whole W w.heap.size 9 #[.string (gapL pre).1] ∧ Whole W (w.heap.size + 1) 168 #[.int .i64 (gapL pre).2.1, .int .i64 (gapL pre).2.2]) ∧ Below w.heap.size w W
theorem gapIn_own (w : World) (B : Nat) (hB : w.heap.size ≤ B) : OwnFrom B (GapIn w) :=
 fun s X Y row h hg hr => ⟨⟨(whole_own (β := Unit) w.heap.size 9 (fun _ => #[.string (gapL s).1])).from B () X Y row h.1.1 hg hr, (whole_own (β := Unit) _ 168 (fun _ => #[.int .i64 (gapL s).2.1, .int .i64 (gapL s).2.2])).from B () X Y row h.1.2 hg hr⟩, ownFrom_below (β := Unit) (Nat.le_refl _) hB () X Y row h.2 hg hr⟩
/-- What a round's assigning comes to. -/
def GapAx (tm : Nat → AGold → Array Value) (B : Nat) (x : AGold) (a' : Act) (W : World) : Prop := ∃ b, B ≤ b ∧ a' = { tmps := tm b x, defers := [] } ∧ Whole W b 168 #[.int .i64 x.1, .int .i64 x.2]
theorem gapAx_own (tm : Nat → AGold → Array Value) (B B' : Nat) (x : AGold) (a' : Act) : OwnFrom B' (fun (_ : Unit) W => GapAx tm B x a' W) := by
 rintro s X Y row ⟨b, hb, ha, hW⟩ hg hr
 exact ⟨b, hb, ha, (whole_own (β := Unit) b 168 (fun _ => #[.int .i64 x.1, .int .i64 x.2])).from B' () X Y row hW hg hr⟩

set_option maxRecDepth 100000 in
set_option maxHeartbeats 4000000 in
theorem gaps5 (w : World) : Calls Try.prog 115 #[.int .i64 5] w fun e w' => e = .returned (.tuple #[.string (gapL (rungL 6)).1, .int .i64 0]) ∧ Below w.heap.size w w' := by
 refine (callsIn_wide (n := 6)).1 ?_
 refine callsIn_of_wp_marks Try.func115 rfl trivial ?_ rfl
 simp only [Try.ntmps115, List.size_toArray, List.length_cons, List.length_nil, Nat.reduceAdd, Nat.reduceSub, Array.replicate_succ, Array.replicate_zero, List.push_toArray, List.append_toArray, List.nil_append, List.cons_append]
 gi_wp2_with (first
  | (refine ⟨trivial, ?_⟩; gi_at_call 132; refine (callsIn_wide.2 (gauge_within.calls 5 0 1000 true _ (by decide))).mono ?_; rintro e w1 ⟨rfl, hd⟩; have HB1 := Lib.hid (show Below w.heap.size w w1 from (by obtain ⟨m1, hd⟩ := hd; subst hd; exact pw_below_drewN (Below.refl _ _) _)); clear hd)
  | (refine ⟨trivial, ?_⟩; gi_at_call 133; refine (callsIn_wide.2 (rungs_any _ _)).mono ?_; rintro e w' ⟨rfl, rfl⟩))
 have b0 := ((Whole.new w1 9 #[.string ⟨#[]⟩]).alloc (.cells #[.int .i64 (-1), .int .i64 0] 168)).alloc (.cells #[.int .i64 6] 3)
 have b1 := (Whole.new (w1.alloc (.cells #[.string ⟨#[]⟩] 9)) 168 #[.int .i64 (-1), .int .i64 0]).alloc (.cells #[.int .i64 6] 3)
 have b2 := Whole.new ((w1.alloc (.cells #[.string ⟨#[]⟩] 9)).alloc (.cells #[.int .i64 (-1), .int .i64 0] 168)) 3 #[.int .i64 6]
 have hB0 := below_alloc (below_alloc (below_alloc (Below.refl w1.heap.size w1) (.cells #[.string ⟨#[]⟩] 9)) (.cells #[.int .i64 (-1), .int .i64 0] 168)) (.cells #[.int .i64 6] 3)
 have hz0 : (((w1.alloc (.cells #[.string ⟨#[]⟩] 9)).alloc (.cells #[.int .i64 (-1), .int .i64 0] 168)).alloc (.cells #[.int .i64 6] 3)).heap.size = w1.heap.size + 1 + 1 + 1 := by simp only [World.size_alloc]
 simp only [World.size_alloc] at b1 b2
 generalize ((w1.alloc (.cells #[.string ⟨#[]⟩] 9)).alloc (.cells #[.int .i64 (-1), .int .i64 0] 168)).alloc (.cells #[.int .i64 6] 3) = W1 at b0 b1 b2 hB0 hz0 ⊢
 have hseq : SeqStopsK Fence.wide 5 Try.prog 152 #[.pointer (some ⟨w1.heap.size + 1 + 1, 0, none⟩)] (fun x : AGold => #[goldV x]) (fun _ _ => True) (fun ys => ys = rungL 6) (fun _ => True) 6 W1 := by
  intro lp J Jx W hW hJ hJx hY h0'
  exact rungs1_in 5 lp (w1.heap.size + 1 + 1) J Jx W (b2.below hW b2.lt) hJ hY h0'
 refine wpIn_rangeFunc_ownH rfl (by omega) (gf := 152) (lb := #[.pointer (some ⟨w1.heap.size + 1 + 1, 0, none⟩)]) rfl trivial (enters_of Try.func152 (by kernel_rfl) rfl) hseq (fun _ _ => trivial) (fun _ _ _ _ _ _ _ _ => trivial) (Below.refl _ _) (fun _ => rfl)
  (GapIn w1) (fun _ _ _ => False) (gapIn_own w1 _ hB0.size) (fun _ _ _ _ _ hs _ _ => hs) ⟨⟨b0, b1⟩, hB0⟩
  (GapAx (fun b x => #[.int .i64 5, undef, .string ⟨#[]⟩, .int .i64 0, .pointer (some ⟨w1.heap.size, 0, none⟩), .pointer (some ⟨w1.heap.size + 1, 0, none⟩), .pointer (some ⟨b, 0, none⟩), .int .i64 5, .bool true, .bool false, .agg #[.int .i64 (-1), .int .i64 0], .int .i64 5, .int .i64 6, .func (.func 152) #[] #[.pointer (some ⟨w1.heap.size + 1 + 1, 0, none⟩)], goldV x, undef, undef, undef, undef, undef, undef, undef, undef, undef, undef, undef, undef, undef, undef, undef, undef]) (w1.heap.size + 1 + 1)) (fun x a' => gapAx_own _ _ _ x a') ?assign ?body ?done ?stop
 case assign =>
  rintro lp pre ⟨x1, x2⟩ W K ⟨⟨b1, b2⟩, hB⟩ hK
  gi_wp2
  have hbel : Below W.heap.size W (W.alloc (.cells #[.int .i64 x1, .int .i64 x2] 168)) := below_alloc (Below.refl _ _) _
  exact hK _ _ (keepsFrom_below hbel) trivial ⟨⟨b1.alloc _, b2.alloc _⟩, below_alloc hB _⟩ ⟨_, (by have := b2.lt; omega), rfl, Whole.new _ _ _⟩
 case body =>
  rintro lp pre ⟨x1, x2⟩ a' W hlp hrec ⟨⟨b1, b2⟩, hB⟩ ⟨b, hb, rfl, b4⟩ hlt
  have hg := gapL_snoc pre (x1, x2)
  rw [gapStep] at hg
  obtain ⟨s0, hs0⟩ : ∃ s, (gapL pre).1 = s := ⟨_, rfl⟩
  obtain ⟨l1, hl1⟩ : ∃ s, (gapL pre).2.1 = s := ⟨_, rfl⟩
  obtain ⟨l2, hl2⟩ : ∃ s, (gapL pre).2.2 = s := ⟨_, rfl⟩
  rw [hs0, hl1, hl2] at hg
  have hsz : ¬ (9223372036854775807 < s0.size + 1) := by have := gapL_size pre; rw [hs0] at this; omega
  rw [hs0] at b1
  rw [hl1, hl2] at b2
  obtain ⟨p1, hp1⟩ : ∃ p, wrap64 (l1 + 1) = p := ⟨_, rfl⟩
  obtain ⟨p2, hp2⟩ : ∃ p, wrap64 (l2 + 0) = p := ⟨_, rfl⟩
  have HP := Lib.hid (show gauge_plus.f l1 l2 1 0 = some (p1, p2) by rw [← hp1, ← hp2]; rfl)
  rw [hp1, hp2] at hg
  clear hs0 hl1 hl2 hp1 hp2
  have o0 := b1.cell 0
  have l0_ := b2.cell 0
  have l1_ := b2.cell 1
  have x0_ := b4.cell 0
  have x1_ := b4.cell 1
  simp only [List.getElem?_toArray, List.getElem?_cons_zero, List.getElem?_cons_succ] at o0 l0_ l1_ x0_ x1_
  have hlt1 := b1.lt
  have hlt2 := b2.lt
  have hlt4 := b4.lt
  have B1 := Lib.hid b1
  have B2 := Lib.hid b2
  have B4 := Lib.hid b4
  have HB := Lib.hid hB
  clear b1 b2 b4 hB hrec
  by_cases hz : x1 = 0 ∧ x2 = 0
  ·obtain ⟨rfl, rfl⟩ := hz
   rw [if_pos rfl] at hg
   have HG := Lib.hid hg
   clear hg
   have f0 := B2.out.frozen 0
   have C22 := B2.out.set 0 (.int .i64 0)
   have f2 := C22.frozen 1
   have y3 := C22.cell 1
   simp only [List.setIfInBounds_toArray, List.set_cons_zero, List.getElem?_toArray, List.getElem?_cons_zero, List.getElem?_cons_succ] at y3
   have C23 := C22.set 1 (.int .i64 0)
   have C13 := (B1.out.far (p := ⟨w1.heap.size + 1, 0, none⟩) (by show w1.heap.size ≠ w1.heap.size + 1; omega) (.int .i64 0)).far (p := ⟨w1.heap.size + 1, 1, none⟩) (by show w1.heap.size ≠ w1.heap.size + 1; omega) (.int .i64 0)
   have HC := Lib.hid (And.intro C13 C23)
   clear C22 C23 C13
   gi_wp2
   refine ⟨((KeepsOthers.setCell _ _ _).from _).trans ((KeepsOthers.setCell _ _ _).from _), trivial, ?_⟩
   refine ⟨by rw [HG.out]; exact HC.out, ?_⟩
   exact Below.setAt (Below.setAt HB.out (b := w1.heap.size + 1) (by omega) 0 _) (b := w1.heap.size + 1) (by omega) 1 _
  ·have hz1 : x1 = 0 ∧ ¬ x2 = 0 ∨ ¬ x1 = 0 := by
    by_cases h1 : x1 = 0
    ·exact .inl ⟨h1, fun h2 => hz ⟨h1, h2⟩⟩
    ·exact .inr h1
   rw [if_neg (fun e => hz (by injection e with e1 e2; exact ⟨e1, e2⟩))] at hg
   clear hz
   by_cases hp : x1 = p1 ∧ x2 = p2
   ·rw [if_pos (by rw [hp.1, hp.2])] at hg
    have HG := Lib.hid hg
    obtain ⟨rfl, rfl⟩ := hp
    clear hg
    rcases hz1 with ⟨rfl, z2⟩ | z1
    all_goals
     gi_wp2
     refine wpIn_region_any (by kernel_rfl) ?_
     change wpAnyIn _ _ _ _ _ _ _ _ _ (World.drew _)
     refine wpAnyIn_ready (rs := [0, 1, 2]) (by kernel_rfl) (by simp) ?_
     refine AllReadyIn.cons rfl (fun K hK => ?_) ?_
     ·go_simp
      refine hK _ _ ?_
      clear hK K
      refine wpAnyIn_ready (rs := [1, 2]) (by kernel_rfl) (by simp) ?_
      refine AllReadyIn.cons rfl (fun K hK => ?_) ?_
      ·go_simp
       refine hK _ _ ?_
       clear hK K
       refine wpAnyIn_ready (rs := [2]) (by kernel_rfl) (by simp) ?_
       refine AllReadyIn.cons rfl (fun K hK => ?_) AllReadyIn.nil
       go_simp
       refine hK _ _ ?_
       clear hK K
       refine wpAnyIn_ready (rs := [3]) (by kernel_rfl) (by simp) ?_
       refine AllReadyIn.cons rfl (fun K hK => ?_) AllReadyIn.nil
       go_simp
       refine ⟨trivial, ((callsIn_wide.2 (gauge_plus.calls _ _ _ _ _ _ _ HP.out)).inRound lp).mono ?_⟩
       rintro e W2 ⟨rfl, hb2⟩
       replace hb2 : Below W.heap.size W W2 := ((Below.refl W.heap.size W).drew).trans hb2
       have HB2 := Lib.hid hb2
       have B12 := Lib.hid (B1.out.below hb2 hlt1)
       have B22 := Lib.hid (B2.out.below hb2 hlt2)
       have B42 := Lib.hid (B4.out.below hb2 hlt4)
       clear hb2 o0 l0_ l1_ x0_ x1_
       have o0 := B12.out.cell 0
       have l0_ := B22.out.cell 0
       have l1_ := B22.out.cell 1
       have x0_ := B42.out.cell 0
       have x1_ := B42.out.cell 1
       simp only [List.getElem?_toArray, List.getElem?_cons_zero, List.getElem?_cons_succ] at o0 l0_ l1_ x0_ x1_
       go_simp
       refine hK _ _ ?_
       clear hK K
       refine wpAnyIn_ready (rs := [4]) (by kernel_rfl) (by simp) ?_
       refine AllReadyIn.cons rfl (fun K hK => ?_) AllReadyIn.nil
       go_simp
       refine hK _ _ ?_
       clear hK K
       refine wpAnyIn_ready (rs := [5]) (by kernel_rfl) (by simp) ?_
       refine AllReadyIn.cons rfl (fun K hK => ?_) AllReadyIn.nil
       go_simp
       refine hK _ _ ?_
       clear hK K
       refine wpAnyIn_done (by kernel_rfl) ?_ _
       have f0 := B12.out.frozen 0
       have f1 := ((B22.out.far (p := ⟨w1.heap.size, 0, none⟩) (by show w1.heap.size + 1 ≠ w1.heap.size; omega) (.string (s0 ++ (⟨#[76]⟩ : ByteArray)))).frozen 0)
       have C1 := (B12.out.set 0 (.string (s0 ++ (⟨#[76]⟩ : ByteArray))))
       have C2 := (B22.out.far (p := ⟨w1.heap.size, 0, none⟩) (by show w1.heap.size + 1 ≠ w1.heap.size; omega) (.string (s0 ++ (⟨#[76]⟩ : ByteArray))))
       have C4 := (B42.out.far (p := ⟨w1.heap.size, 0, none⟩) (by show b ≠ w1.heap.size; omega) (.string (s0 ++ (⟨#[76]⟩ : ByteArray))))
       have y0 := C4.cell 0
       have y1 := C4.cell 1
       have y2 := C2.cell 0
       simp only [List.getElem?_toArray, List.getElem?_cons_zero, List.getElem?_cons_succ] at y0 y1 y2
       have C22 := fun u => C2.set 0 u
       have f2 := fun u => (C22 u).frozen 1
       have y3 := fun u => (C22 u).cell 1
       simp only [List.setIfInBounds_toArray, List.set_cons_zero, List.getElem?_toArray, List.getElem?_cons_zero, List.getElem?_cons_succ] at y3
       have HC2 := Lib.hid C2
       have HC1 := Lib.hid C1
       clear C1 C2 C4 C22
       gi_wp2
       refine ⟨(((keepsFrom_below HB2.out).trans ((KeepsOthers.setCell _ _ _).from _)).trans ((KeepsOthers.setCell _ _ _).from _)).trans ((KeepsOthers.setCell _ _ _).from _), trivial, ?_⟩
       refine ⟨by rw [HG.out]; exact ⟨(HC1.out.far (p := ⟨w1.heap.size + 1, 0, none⟩) (by show w1.heap.size ≠ w1.heap.size + 1; omega) _).far (p := ⟨w1.heap.size + 1, 1, none⟩) (by show w1.heap.size ≠ w1.heap.size + 1; omega) _, (HC2.out.set 0 _).set 1 _⟩, ?_⟩
       exact Below.setAt (Below.setAt (Below.setAt (below_then HB.out (by have := HB.out.size; omega) HB2.out) (b := w1.heap.size) (by omega) 0 _) (b := w1.heap.size + 1) (by omega) 0 _) (b := w1.heap.size + 1) (by omega) 1 _
      refine AllReadyIn.cons rfl (fun K hK => ?_) AllReadyIn.nil
      go_simp
      refine hK _ _ ?_
      clear hK K
      refine wpAnyIn_ready (rs := [1]) (by kernel_rfl) (by simp) ?_
      refine AllReadyIn.cons rfl (fun K hK => ?_) AllReadyIn.nil
      go_simp
      refine hK _ _ ?_
      clear hK K
      refine wpAnyIn_ready (rs := [3]) (by kernel_rfl) (by simp) ?_
      refine AllReadyIn.cons rfl (fun K hK => ?_) AllReadyIn.nil
      go_simp
      refine ⟨trivial, ((callsIn_wide.2 (gauge_plus.calls _ _ _ _ _ _ _ HP.out)).inRound lp).mono ?_⟩
      rintro e W2 ⟨rfl, hb2⟩
      replace hb2 : Below W.heap.size W W2 := ((Below.refl W.heap.size W).drew).trans hb2
      have HB2 := Lib.hid hb2
      have B12 := Lib.hid (B1.out.below hb2 hlt1)
      have B22 := Lib.hid (B2.out.below hb2 hlt2)
      have B42 := Lib.hid (B4.out.below hb2 hlt4)
      clear hb2 o0 l0_ l1_ x0_ x1_
      have o0 := B12.out.cell 0
      have l0_ := B22.out.cell 0
      have l1_ := B22.out.cell 1
      have x0_ := B42.out.cell 0
      have x1_ := B42.out.cell 1
      simp only [List.getElem?_toArray, List.getElem?_cons_zero, List.getElem?_cons_succ] at o0 l0_ l1_ x0_ x1_
      go_simp
      refine hK _ _ ?_
      clear hK K
      refine wpAnyIn_ready (rs := [4]) (by kernel_rfl) (by simp) ?_
      refine AllReadyIn.cons rfl (fun K hK => ?_) AllReadyIn.nil
      go_simp
      refine hK _ _ ?_
      clear hK K
      refine wpAnyIn_ready (rs := [5]) (by kernel_rfl) (by simp) ?_
      refine AllReadyIn.cons rfl (fun K hK => ?_) AllReadyIn.nil
      go_simp
      refine hK _ _ ?_
      clear hK K
      refine wpAnyIn_done (by kernel_rfl) ?_ _
      have f0 := B12.out.frozen 0
      have f1 := ((B22.out.far (p := ⟨w1.heap.size, 0, none⟩) (by show w1.heap.size + 1 ≠ w1.heap.size; omega) (.string (s0 ++ (⟨#[76]⟩ : ByteArray)))).frozen 0)
      have C1 := (B12.out.set 0 (.string (s0 ++ (⟨#[76]⟩ : ByteArray))))
      have C2 := (B22.out.far (p := ⟨w1.heap.size, 0, none⟩) (by show w1.heap.size + 1 ≠ w1.heap.size; omega) (.string (s0 ++ (⟨#[76]⟩ : ByteArray))))
      have C4 := (B42.out.far (p := ⟨w1.heap.size, 0, none⟩) (by show b ≠ w1.heap.size; omega) (.string (s0 ++ (⟨#[76]⟩ : ByteArray))))
      have y0 := C4.cell 0
      have y1 := C4.cell 1
      have y2 := C2.cell 0
      simp only [List.getElem?_toArray, List.getElem?_cons_zero, List.getElem?_cons_succ] at y0 y1 y2
      have C22 := fun u => C2.set 0 u
      have f2 := fun u => (C22 u).frozen 1
      have y3 := fun u => (C22 u).cell 1
      simp only [List.setIfInBounds_toArray, List.set_cons_zero, List.getElem?_toArray, List.getElem?_cons_zero, List.getElem?_cons_succ] at y3
      have HC2 := Lib.hid C2
      have HC1 := Lib.hid C1
      clear C1 C2 C4 C22
      gi_wp2
      refine ⟨(((keepsFrom_below HB2.out).trans ((KeepsOthers.setCell _ _ _).from _)).trans ((KeepsOthers.setCell _ _ _).from _)).trans ((KeepsOthers.setCell _ _ _).from _), trivial, ?_⟩
      refine ⟨by rw [HG.out]; exact ⟨(HC1.out.far (p := ⟨w1.heap.size + 1, 0, none⟩) (by show w1.heap.size ≠ w1.heap.size + 1; omega) _).far (p := ⟨w1.heap.size + 1, 1, none⟩) (by show w1.heap.size ≠ w1.heap.size + 1; omega) _, (HC2.out.set 0 _).set 1 _⟩, ?_⟩
      exact Below.setAt (Below.setAt (Below.setAt (below_then HB.out (by have := HB.out.size; omega) HB2.out) (b := w1.heap.size) (by omega) 0 _) (b := w1.heap.size + 1) (by omega) 0 _) (b := w1.heap.size + 1) (by omega) 1 _
     refine AllReadyIn.cons rfl (fun K hK => ?_) ?_
     ·go_simp
      refine hK _ _ ?_
      clear hK K
      refine wpAnyIn_ready (rs := [0, 2]) (by kernel_rfl) (by simp) ?_
      refine AllReadyIn.cons rfl (fun K hK => ?_) ?_
      ·go_simp
       refine hK _ _ ?_
       clear hK K
       refine wpAnyIn_ready (rs := [2]) (by kernel_rfl) (by simp) ?_
       refine AllReadyIn.cons rfl (fun K hK => ?_) AllReadyIn.nil
       go_simp
       refine hK _ _ ?_
       clear hK K
       refine wpAnyIn_ready (rs := [3]) (by kernel_rfl) (by simp) ?_
       refine AllReadyIn.cons rfl (fun K hK => ?_) AllReadyIn.nil
       go_simp
       refine ⟨trivial, ((callsIn_wide.2 (gauge_plus.calls _ _ _ _ _ _ _ HP.out)).inRound lp).mono ?_⟩
       rintro e W2 ⟨rfl, hb2⟩
       replace hb2 : Below W.heap.size W W2 := ((Below.refl W.heap.size W).drew).trans hb2
       have HB2 := Lib.hid hb2
       have B12 := Lib.hid (B1.out.below hb2 hlt1)
       have B22 := Lib.hid (B2.out.below hb2 hlt2)
       have B42 := Lib.hid (B4.out.below hb2 hlt4)
       clear hb2 o0 l0_ l1_ x0_ x1_
       have o0 := B12.out.cell 0
       have l0_ := B22.out.cell 0
       have l1_ := B22.out.cell 1
       have x0_ := B42.out.cell 0
       have x1_ := B42.out.cell 1
       simp only [List.getElem?_toArray, List.getElem?_cons_zero, List.getElem?_cons_succ] at o0 l0_ l1_ x0_ x1_
       go_simp
       refine hK _ _ ?_
       clear hK K
       refine wpAnyIn_ready (rs := [4]) (by kernel_rfl) (by simp) ?_
       refine AllReadyIn.cons rfl (fun K hK => ?_) AllReadyIn.nil
       go_simp
       refine hK _ _ ?_
       clear hK K
       refine wpAnyIn_ready (rs := [5]) (by kernel_rfl) (by simp) ?_
       refine AllReadyIn.cons rfl (fun K hK => ?_) AllReadyIn.nil
       go_simp
       refine hK _ _ ?_
       clear hK K
       refine wpAnyIn_done (by kernel_rfl) ?_ _
       have f0 := B12.out.frozen 0
       have f1 := ((B22.out.far (p := ⟨w1.heap.size, 0, none⟩) (by show w1.heap.size + 1 ≠ w1.heap.size; omega) (.string (s0 ++ (⟨#[76]⟩ : ByteArray)))).frozen 0)
       have C1 := (B12.out.set 0 (.string (s0 ++ (⟨#[76]⟩ : ByteArray))))
       have C2 := (B22.out.far (p := ⟨w1.heap.size, 0, none⟩) (by show w1.heap.size + 1 ≠ w1.heap.size; omega) (.string (s0 ++ (⟨#[76]⟩ : ByteArray))))
       have C4 := (B42.out.far (p := ⟨w1.heap.size, 0, none⟩) (by show b ≠ w1.heap.size; omega) (.string (s0 ++ (⟨#[76]⟩ : ByteArray))))
       have y0 := C4.cell 0
       have y1 := C4.cell 1
       have y2 := C2.cell 0
       simp only [List.getElem?_toArray, List.getElem?_cons_zero, List.getElem?_cons_succ] at y0 y1 y2
       have C22 := fun u => C2.set 0 u
       have f2 := fun u => (C22 u).frozen 1
       have y3 := fun u => (C22 u).cell 1
       simp only [List.setIfInBounds_toArray, List.set_cons_zero, List.getElem?_toArray, List.getElem?_cons_zero, List.getElem?_cons_succ] at y3
       have HC2 := Lib.hid C2
       have HC1 := Lib.hid C1
       clear C1 C2 C4 C22
       gi_wp2
       refine ⟨(((keepsFrom_below HB2.out).trans ((KeepsOthers.setCell _ _ _).from _)).trans ((KeepsOthers.setCell _ _ _).from _)).trans ((KeepsOthers.setCell _ _ _).from _), trivial, ?_⟩
       refine ⟨by rw [HG.out]; exact ⟨(HC1.out.far (p := ⟨w1.heap.size + 1, 0, none⟩) (by show w1.heap.size ≠ w1.heap.size + 1; omega) _).far (p := ⟨w1.heap.size + 1, 1, none⟩) (by show w1.heap.size ≠ w1.heap.size + 1; omega) _, (HC2.out.set 0 _).set 1 _⟩, ?_⟩
       exact Below.setAt (Below.setAt (Below.setAt (below_then HB.out (by have := HB.out.size; omega) HB2.out) (b := w1.heap.size) (by omega) 0 _) (b := w1.heap.size + 1) (by omega) 0 _) (b := w1.heap.size + 1) (by omega) 1 _
      refine AllReadyIn.cons rfl (fun K hK => ?_) AllReadyIn.nil
      go_simp
      refine hK _ _ ?_
      clear hK K
      refine wpAnyIn_ready (rs := [0, 3]) (by kernel_rfl) (by simp) ?_
      refine AllReadyIn.cons rfl (fun K hK => ?_) ?_
      ·go_simp
       refine hK _ _ ?_
       clear hK K
       refine wpAnyIn_ready (rs := [3]) (by kernel_rfl) (by simp) ?_
       refine AllReadyIn.cons rfl (fun K hK => ?_) AllReadyIn.nil
       go_simp
       refine ⟨trivial, ((callsIn_wide.2 (gauge_plus.calls _ _ _ _ _ _ _ HP.out)).inRound lp).mono ?_⟩
       rintro e W2 ⟨rfl, hb2⟩
       replace hb2 : Below W.heap.size W W2 := ((Below.refl W.heap.size W).drew).trans hb2
       have HB2 := Lib.hid hb2
       have B12 := Lib.hid (B1.out.below hb2 hlt1)
       have B22 := Lib.hid (B2.out.below hb2 hlt2)
       have B42 := Lib.hid (B4.out.below hb2 hlt4)
       clear hb2 o0 l0_ l1_ x0_ x1_
       have o0 := B12.out.cell 0
       have l0_ := B22.out.cell 0
       have l1_ := B22.out.cell 1
       have x0_ := B42.out.cell 0
       have x1_ := B42.out.cell 1
       simp only [List.getElem?_toArray, List.getElem?_cons_zero, List.getElem?_cons_succ] at o0 l0_ l1_ x0_ x1_
       go_simp
       refine hK _ _ ?_
       clear hK K
       refine wpAnyIn_ready (rs := [4]) (by kernel_rfl) (by simp) ?_
       refine AllReadyIn.cons rfl (fun K hK => ?_) AllReadyIn.nil
       go_simp
       refine hK _ _ ?_
       clear hK K
       refine wpAnyIn_ready (rs := [5]) (by kernel_rfl) (by simp) ?_
       refine AllReadyIn.cons rfl (fun K hK => ?_) AllReadyIn.nil
       go_simp
       refine hK _ _ ?_
       clear hK K
       refine wpAnyIn_done (by kernel_rfl) ?_ _
       have f0 := B12.out.frozen 0
       have f1 := ((B22.out.far (p := ⟨w1.heap.size, 0, none⟩) (by show w1.heap.size + 1 ≠ w1.heap.size; omega) (.string (s0 ++ (⟨#[76]⟩ : ByteArray)))).frozen 0)
       have C1 := (B12.out.set 0 (.string (s0 ++ (⟨#[76]⟩ : ByteArray))))
       have C2 := (B22.out.far (p := ⟨w1.heap.size, 0, none⟩) (by show w1.heap.size + 1 ≠ w1.heap.size; omega) (.string (s0 ++ (⟨#[76]⟩ : ByteArray))))
       have C4 := (B42.out.far (p := ⟨w1.heap.size, 0, none⟩) (by show b ≠ w1.heap.size; omega) (.string (s0 ++ (⟨#[76]⟩ : ByteArray))))
       have y0 := C4.cell 0
       have y1 := C4.cell 1
       have y2 := C2.cell 0
       simp only [List.getElem?_toArray, List.getElem?_cons_zero, List.getElem?_cons_succ] at y0 y1 y2
       have C22 := fun u => C2.set 0 u
       have f2 := fun u => (C22 u).frozen 1
       have y3 := fun u => (C22 u).cell 1
       simp only [List.setIfInBounds_toArray, List.set_cons_zero, List.getElem?_toArray, List.getElem?_cons_zero, List.getElem?_cons_succ] at y3
       have HC2 := Lib.hid C2
       have HC1 := Lib.hid C1
       clear C1 C2 C4 C22
       gi_wp2
       refine ⟨(((keepsFrom_below HB2.out).trans ((KeepsOthers.setCell _ _ _).from _)).trans ((KeepsOthers.setCell _ _ _).from _)).trans ((KeepsOthers.setCell _ _ _).from _), trivial, ?_⟩
       refine ⟨by rw [HG.out]; exact ⟨(HC1.out.far (p := ⟨w1.heap.size + 1, 0, none⟩) (by show w1.heap.size ≠ w1.heap.size + 1; omega) _).far (p := ⟨w1.heap.size + 1, 1, none⟩) (by show w1.heap.size ≠ w1.heap.size + 1; omega) _, (HC2.out.set 0 _).set 1 _⟩, ?_⟩
       exact Below.setAt (Below.setAt (Below.setAt (below_then HB.out (by have := HB.out.size; omega) HB2.out) (b := w1.heap.size) (by omega) 0 _) (b := w1.heap.size + 1) (by omega) 0 _) (b := w1.heap.size + 1) (by omega) 1 _
      refine AllReadyIn.cons rfl (fun K hK => ?_) AllReadyIn.nil
      go_simp
      refine ⟨trivial, ((callsIn_wide.2 (gauge_plus.calls _ _ _ _ _ _ _ HP.out)).inRound lp).mono ?_⟩
      rintro e W2 ⟨rfl, hb2⟩
      replace hb2 : Below W.heap.size W W2 := ((Below.refl W.heap.size W).drew).trans hb2
      have HB2 := Lib.hid hb2
      have B12 := Lib.hid (B1.out.below hb2 hlt1)
      have B22 := Lib.hid (B2.out.below hb2 hlt2)
      have B42 := Lib.hid (B4.out.below hb2 hlt4)
      clear hb2 o0 l0_ l1_ x0_ x1_
      have o0 := B12.out.cell 0
      have l0_ := B22.out.cell 0
      have l1_ := B22.out.cell 1
      have x0_ := B42.out.cell 0
      have x1_ := B42.out.cell 1
      simp only [List.getElem?_toArray, List.getElem?_cons_zero, List.getElem?_cons_succ] at o0 l0_ l1_ x0_ x1_
      go_simp
      refine hK _ _ ?_
      clear hK K
      refine wpAnyIn_ready (rs := [0]) (by kernel_rfl) (by simp) ?_
      refine AllReadyIn.cons rfl (fun K hK => ?_) AllReadyIn.nil
      go_simp
      refine hK _ _ ?_
      clear hK K
      refine wpAnyIn_ready (rs := [4]) (by kernel_rfl) (by simp) ?_
      refine AllReadyIn.cons rfl (fun K hK => ?_) AllReadyIn.nil
      go_simp
      refine hK _ _ ?_
      clear hK K
      refine wpAnyIn_ready (rs := [5]) (by kernel_rfl) (by simp) ?_
      refine AllReadyIn.cons rfl (fun K hK => ?_) AllReadyIn.nil
      go_simp
      refine hK _ _ ?_
      clear hK K
      refine wpAnyIn_done (by kernel_rfl) ?_ _
      have f0 := B12.out.frozen 0
      have f1 := ((B22.out.far (p := ⟨w1.heap.size, 0, none⟩) (by show w1.heap.size + 1 ≠ w1.heap.size; omega) (.string (s0 ++ (⟨#[76]⟩ : ByteArray)))).frozen 0)
      have C1 := (B12.out.set 0 (.string (s0 ++ (⟨#[76]⟩ : ByteArray))))
      have C2 := (B22.out.far (p := ⟨w1.heap.size, 0, none⟩) (by show w1.heap.size + 1 ≠ w1.heap.size; omega) (.string (s0 ++ (⟨#[76]⟩ : ByteArray))))
      have C4 := (B42.out.far (p := ⟨w1.heap.size, 0, none⟩) (by show b ≠ w1.heap.size; omega) (.string (s0 ++ (⟨#[76]⟩ : ByteArray))))
      have y0 := C4.cell 0
      have y1 := C4.cell 1
      have y2 := C2.cell 0
      simp only [List.getElem?_toArray, List.getElem?_cons_zero, List.getElem?_cons_succ] at y0 y1 y2
      have C22 := fun u => C2.set 0 u
      have f2 := fun u => (C22 u).frozen 1
      have y3 := fun u => (C22 u).cell 1
      simp only [List.setIfInBounds_toArray, List.set_cons_zero, List.getElem?_toArray, List.getElem?_cons_zero, List.getElem?_cons_succ] at y3
      have HC2 := Lib.hid C2
      have HC1 := Lib.hid C1
      clear C1 C2 C4 C22
      gi_wp2
      refine ⟨(((keepsFrom_below HB2.out).trans ((KeepsOthers.setCell _ _ _).from _)).trans ((KeepsOthers.setCell _ _ _).from _)).trans ((KeepsOthers.setCell _ _ _).from _), trivial, ?_⟩
      refine ⟨by rw [HG.out]; exact ⟨(HC1.out.far (p := ⟨w1.heap.size + 1, 0, none⟩) (by show w1.heap.size ≠ w1.heap.size + 1; omega) _).far (p := ⟨w1.heap.size + 1, 1, none⟩) (by show w1.heap.size ≠ w1.heap.size + 1; omega) _, (HC2.out.set 0 _).set 1 _⟩, ?_⟩
      exact Below.setAt (Below.setAt (Below.setAt (below_then HB.out (by have := HB.out.size; omega) HB2.out) (b := w1.heap.size) (by omega) 0 _) (b := w1.heap.size + 1) (by omega) 0 _) (b := w1.heap.size + 1) (by omega) 1 _
     refine AllReadyIn.cons rfl (fun K hK => ?_) AllReadyIn.nil
     go_simp
     refine hK _ _ ?_
     clear hK K
     refine wpAnyIn_ready (rs := [0, 1]) (by kernel_rfl) (by simp) ?_
     refine AllReadyIn.cons rfl (fun K hK => ?_) ?_
     ·go_simp
      refine hK _ _ ?_
      clear hK K
      refine wpAnyIn_ready (rs := [1]) (by kernel_rfl) (by simp) ?_
      refine AllReadyIn.cons rfl (fun K hK => ?_) AllReadyIn.nil
      go_simp
      refine hK _ _ ?_
      clear hK K
      refine wpAnyIn_ready (rs := [3]) (by kernel_rfl) (by simp) ?_
      refine AllReadyIn.cons rfl (fun K hK => ?_) AllReadyIn.nil
      go_simp
      refine ⟨trivial, ((callsIn_wide.2 (gauge_plus.calls _ _ _ _ _ _ _ HP.out)).inRound lp).mono ?_⟩
      rintro e W2 ⟨rfl, hb2⟩
      replace hb2 : Below W.heap.size W W2 := ((Below.refl W.heap.size W).drew).trans hb2
      have HB2 := Lib.hid hb2
      have B12 := Lib.hid (B1.out.below hb2 hlt1)
      have B22 := Lib.hid (B2.out.below hb2 hlt2)
      have B42 := Lib.hid (B4.out.below hb2 hlt4)
      clear hb2 o0 l0_ l1_ x0_ x1_
      have o0 := B12.out.cell 0
      have l0_ := B22.out.cell 0
      have l1_ := B22.out.cell 1
      have x0_ := B42.out.cell 0
      have x1_ := B42.out.cell 1
      simp only [List.getElem?_toArray, List.getElem?_cons_zero, List.getElem?_cons_succ] at o0 l0_ l1_ x0_ x1_
      go_simp
      refine hK _ _ ?_
      clear hK K
      refine wpAnyIn_ready (rs := [4]) (by kernel_rfl) (by simp) ?_
      refine AllReadyIn.cons rfl (fun K hK => ?_) AllReadyIn.nil
      go_simp
      refine hK _ _ ?_
      clear hK K
      refine wpAnyIn_ready (rs := [5]) (by kernel_rfl) (by simp) ?_
      refine AllReadyIn.cons rfl (fun K hK => ?_) AllReadyIn.nil
      go_simp
      refine hK _ _ ?_
      clear hK K
      refine wpAnyIn_done (by kernel_rfl) ?_ _
      have f0 := B12.out.frozen 0
      have f1 := ((B22.out.far (p := ⟨w1.heap.size, 0, none⟩) (by show w1.heap.size + 1 ≠ w1.heap.size; omega) (.string (s0 ++ (⟨#[76]⟩ : ByteArray)))).frozen 0)
      have C1 := (B12.out.set 0 (.string (s0 ++ (⟨#[76]⟩ : ByteArray))))
      have C2 := (B22.out.far (p := ⟨w1.heap.size, 0, none⟩) (by show w1.heap.size + 1 ≠ w1.heap.size; omega) (.string (s0 ++ (⟨#[76]⟩ : ByteArray))))
      have C4 := (B42.out.far (p := ⟨w1.heap.size, 0, none⟩) (by show b ≠ w1.heap.size; omega) (.string (s0 ++ (⟨#[76]⟩ : ByteArray))))
      have y0 := C4.cell 0
      have y1 := C4.cell 1
      have y2 := C2.cell 0
      simp only [List.getElem?_toArray, List.getElem?_cons_zero, List.getElem?_cons_succ] at y0 y1 y2
      have C22 := fun u => C2.set 0 u
      have f2 := fun u => (C22 u).frozen 1
      have y3 := fun u => (C22 u).cell 1
      simp only [List.setIfInBounds_toArray, List.set_cons_zero, List.getElem?_toArray, List.getElem?_cons_zero, List.getElem?_cons_succ] at y3
      have HC2 := Lib.hid C2
      have HC1 := Lib.hid C1
      clear C1 C2 C4 C22
      gi_wp2
      refine ⟨(((keepsFrom_below HB2.out).trans ((KeepsOthers.setCell _ _ _).from _)).trans ((KeepsOthers.setCell _ _ _).from _)).trans ((KeepsOthers.setCell _ _ _).from _), trivial, ?_⟩
      refine ⟨by rw [HG.out]; exact ⟨(HC1.out.far (p := ⟨w1.heap.size + 1, 0, none⟩) (by show w1.heap.size ≠ w1.heap.size + 1; omega) _).far (p := ⟨w1.heap.size + 1, 1, none⟩) (by show w1.heap.size ≠ w1.heap.size + 1; omega) _, (HC2.out.set 0 _).set 1 _⟩, ?_⟩
      exact Below.setAt (Below.setAt (Below.setAt (below_then HB.out (by have := HB.out.size; omega) HB2.out) (b := w1.heap.size) (by omega) 0 _) (b := w1.heap.size + 1) (by omega) 0 _) (b := w1.heap.size + 1) (by omega) 1 _
     refine AllReadyIn.cons rfl (fun K hK => ?_) AllReadyIn.nil
     go_simp
     refine hK _ _ ?_
     clear hK K
     refine wpAnyIn_ready (rs := [0, 3]) (by kernel_rfl) (by simp) ?_
     refine AllReadyIn.cons rfl (fun K hK => ?_) ?_
     ·go_simp
      refine hK _ _ ?_
      clear hK K
      refine wpAnyIn_ready (rs := [3]) (by kernel_rfl) (by simp) ?_
      refine AllReadyIn.cons rfl (fun K hK => ?_) AllReadyIn.nil
      go_simp
      refine ⟨trivial, ((callsIn_wide.2 (gauge_plus.calls _ _ _ _ _ _ _ HP.out)).inRound lp).mono ?_⟩
      rintro e W2 ⟨rfl, hb2⟩
      replace hb2 : Below W.heap.size W W2 := ((Below.refl W.heap.size W).drew).trans hb2
      have HB2 := Lib.hid hb2
      have B12 := Lib.hid (B1.out.below hb2 hlt1)
      have B22 := Lib.hid (B2.out.below hb2 hlt2)
      have B42 := Lib.hid (B4.out.below hb2 hlt4)
      clear hb2 o0 l0_ l1_ x0_ x1_
      have o0 := B12.out.cell 0
      have l0_ := B22.out.cell 0
      have l1_ := B22.out.cell 1
      have x0_ := B42.out.cell 0
      have x1_ := B42.out.cell 1
      simp only [List.getElem?_toArray, List.getElem?_cons_zero, List.getElem?_cons_succ] at o0 l0_ l1_ x0_ x1_
      go_simp
      refine hK _ _ ?_
      clear hK K
      refine wpAnyIn_ready (rs := [4]) (by kernel_rfl) (by simp) ?_
      refine AllReadyIn.cons rfl (fun K hK => ?_) AllReadyIn.nil
      go_simp
      refine hK _ _ ?_
      clear hK K
      refine wpAnyIn_ready (rs := [5]) (by kernel_rfl) (by simp) ?_
      refine AllReadyIn.cons rfl (fun K hK => ?_) AllReadyIn.nil
      go_simp
      refine hK _ _ ?_
      clear hK K
      refine wpAnyIn_done (by kernel_rfl) ?_ _
      have f0 := B12.out.frozen 0
      have f1 := ((B22.out.far (p := ⟨w1.heap.size, 0, none⟩) (by show w1.heap.size + 1 ≠ w1.heap.size; omega) (.string (s0 ++ (⟨#[76]⟩ : ByteArray)))).frozen 0)
      have C1 := (B12.out.set 0 (.string (s0 ++ (⟨#[76]⟩ : ByteArray))))
      have C2 := (B22.out.far (p := ⟨w1.heap.size, 0, none⟩) (by show w1.heap.size + 1 ≠ w1.heap.size; omega) (.string (s0 ++ (⟨#[76]⟩ : ByteArray))))
      have C4 := (B42.out.far (p := ⟨w1.heap.size, 0, none⟩) (by show b ≠ w1.heap.size; omega) (.string (s0 ++ (⟨#[76]⟩ : ByteArray))))
      have y0 := C4.cell 0
      have y1 := C4.cell 1
      have y2 := C2.cell 0
      simp only [List.getElem?_toArray, List.getElem?_cons_zero, List.getElem?_cons_succ] at y0 y1 y2
      have C22 := fun u => C2.set 0 u
      have f2 := fun u => (C22 u).frozen 1
      have y3 := fun u => (C22 u).cell 1
      simp only [List.setIfInBounds_toArray, List.set_cons_zero, List.getElem?_toArray, List.getElem?_cons_zero, List.getElem?_cons_succ] at y3
      have HC2 := Lib.hid C2
      have HC1 := Lib.hid C1
      clear C1 C2 C4 C22
      gi_wp2
      refine ⟨(((keepsFrom_below HB2.out).trans ((KeepsOthers.setCell _ _ _).from _)).trans ((KeepsOthers.setCell _ _ _).from _)).trans ((KeepsOthers.setCell _ _ _).from _), trivial, ?_⟩
      refine ⟨by rw [HG.out]; exact ⟨(HC1.out.far (p := ⟨w1.heap.size + 1, 0, none⟩) (by show w1.heap.size ≠ w1.heap.size + 1; omega) _).far (p := ⟨w1.heap.size + 1, 1, none⟩) (by show w1.heap.size ≠ w1.heap.size + 1; omega) _, (HC2.out.set 0 _).set 1 _⟩, ?_⟩
      exact Below.setAt (Below.setAt (Below.setAt (below_then HB.out (by have := HB.out.size; omega) HB2.out) (b := w1.heap.size) (by omega) 0 _) (b := w1.heap.size + 1) (by omega) 0 _) (b := w1.heap.size + 1) (by omega) 1 _
     refine AllReadyIn.cons rfl (fun K hK => ?_) AllReadyIn.nil
     go_simp
     refine ⟨trivial, ((callsIn_wide.2 (gauge_plus.calls _ _ _ _ _ _ _ HP.out)).inRound lp).mono ?_⟩
     rintro e W2 ⟨rfl, hb2⟩
     replace hb2 : Below W.heap.size W W2 := ((Below.refl W.heap.size W).drew).trans hb2
     have HB2 := Lib.hid hb2
     have B12 := Lib.hid (B1.out.below hb2 hlt1)
     have B22 := Lib.hid (B2.out.below hb2 hlt2)
     have B42 := Lib.hid (B4.out.below hb2 hlt4)
     clear hb2 o0 l0_ l1_ x0_ x1_
     have o0 := B12.out.cell 0
     have l0_ := B22.out.cell 0
     have l1_ := B22.out.cell 1
     have x0_ := B42.out.cell 0
     have x1_ := B42.out.cell 1
     simp only [List.getElem?_toArray, List.getElem?_cons_zero, List.getElem?_cons_succ] at o0 l0_ l1_ x0_ x1_
     go_simp
     refine hK _ _ ?_
     clear hK K
     refine wpAnyIn_ready (rs := [0]) (by kernel_rfl) (by simp) ?_
     refine AllReadyIn.cons rfl (fun K hK => ?_) AllReadyIn.nil
     go_simp
     refine hK _ _ ?_
     clear hK K
     refine wpAnyIn_ready (rs := [4]) (by kernel_rfl) (by simp) ?_
     refine AllReadyIn.cons rfl (fun K hK => ?_) AllReadyIn.nil
     go_simp
     refine hK _ _ ?_
     clear hK K
     refine wpAnyIn_ready (rs := [5]) (by kernel_rfl) (by simp) ?_
     refine AllReadyIn.cons rfl (fun K hK => ?_) AllReadyIn.nil
     go_simp
     refine hK _ _ ?_
     clear hK K
     refine wpAnyIn_done (by kernel_rfl) ?_ _
     have f0 := B12.out.frozen 0
     have f1 := ((B22.out.far (p := ⟨w1.heap.size, 0, none⟩) (by show w1.heap.size + 1 ≠ w1.heap.size; omega) (.string (s0 ++ (⟨#[76]⟩ : ByteArray)))).frozen 0)
     have C1 := (B12.out.set 0 (.string (s0 ++ (⟨#[76]⟩ : ByteArray))))
     have C2 := (B22.out.far (p := ⟨w1.heap.size, 0, none⟩) (by show w1.heap.size + 1 ≠ w1.heap.size; omega) (.string (s0 ++ (⟨#[76]⟩ : ByteArray))))
     have C4 := (B42.out.far (p := ⟨w1.heap.size, 0, none⟩) (by show b ≠ w1.heap.size; omega) (.string (s0 ++ (⟨#[76]⟩ : ByteArray))))
     have y0 := C4.cell 0
     have y1 := C4.cell 1
     have y2 := C2.cell 0
     simp only [List.getElem?_toArray, List.getElem?_cons_zero, List.getElem?_cons_succ] at y0 y1 y2
     have C22 := fun u => C2.set 0 u
     have f2 := fun u => (C22 u).frozen 1
     have y3 := fun u => (C22 u).cell 1
     simp only [List.setIfInBounds_toArray, List.set_cons_zero, List.getElem?_toArray, List.getElem?_cons_zero, List.getElem?_cons_succ] at y3
     have HC2 := Lib.hid C2
     have HC1 := Lib.hid C1
     clear C1 C2 C4 C22
     gi_wp2
     refine ⟨(((keepsFrom_below HB2.out).trans ((KeepsOthers.setCell _ _ _).from _)).trans ((KeepsOthers.setCell _ _ _).from _)).trans ((KeepsOthers.setCell _ _ _).from _), trivial, ?_⟩
     refine ⟨by rw [HG.out]; exact ⟨(HC1.out.far (p := ⟨w1.heap.size + 1, 0, none⟩) (by show w1.heap.size ≠ w1.heap.size + 1; omega) _).far (p := ⟨w1.heap.size + 1, 1, none⟩) (by show w1.heap.size ≠ w1.heap.size + 1; omega) _, (HC2.out.set 0 _).set 1 _⟩, ?_⟩
     exact Below.setAt (Below.setAt (Below.setAt (below_then HB.out (by have := HB.out.size; omega) HB2.out) (b := w1.heap.size) (by omega) 0 _) (b := w1.heap.size + 1) (by omega) 0 _) (b := w1.heap.size + 1) (by omega) 1 _
   ·rw [if_neg (fun e => hp (by injection e with e1 e2; exact ⟨e1, e2⟩))] at hg
    have HG := Lib.hid hg
    clear hg
    have hp1 : x1 = p1 ∧ ¬ x2 = p2 ∨ ¬ x1 = p1 := by
     by_cases h1 : x1 = p1
     ·exact .inl ⟨h1, fun h2 => hp ⟨h1, h2⟩⟩
     ·exact .inr h1
    clear hp
    rcases hp1 with ⟨rfl, hp2⟩ | hp1
    all_goals rcases hz1 with ⟨rfl, z2⟩ | z1
    all_goals
     gi_wp2
     refine wpIn_region_any (by kernel_rfl) ?_
     change wpAnyIn _ _ _ _ _ _ _ _ _ (World.drew _)
     refine wpAnyIn_ready (rs := [0, 1, 2]) (by kernel_rfl) (by simp) ?_
     refine AllReadyIn.cons rfl (fun K hK => ?_) ?_
     ·go_simp
      refine hK _ _ ?_
      clear hK K
      refine wpAnyIn_ready (rs := [1, 2]) (by kernel_rfl) (by simp) ?_
      refine AllReadyIn.cons rfl (fun K hK => ?_) ?_
      ·go_simp
       refine hK _ _ ?_
       clear hK K
       refine wpAnyIn_ready (rs := [2]) (by kernel_rfl) (by simp) ?_
       refine AllReadyIn.cons rfl (fun K hK => ?_) AllReadyIn.nil
       go_simp
       refine hK _ _ ?_
       clear hK K
       refine wpAnyIn_ready (rs := [3]) (by kernel_rfl) (by simp) ?_
       refine AllReadyIn.cons rfl (fun K hK => ?_) AllReadyIn.nil
       go_simp
       refine ⟨trivial, ((callsIn_wide.2 (gauge_plus.calls _ _ _ _ _ _ _ HP.out)).inRound lp).mono ?_⟩
       rintro e W2 ⟨rfl, hb2⟩
       replace hb2 : Below W.heap.size W W2 := ((Below.refl W.heap.size W).drew).trans hb2
       have HB2 := Lib.hid hb2
       have B12 := Lib.hid (B1.out.below hb2 hlt1)
       have B22 := Lib.hid (B2.out.below hb2 hlt2)
       have B42 := Lib.hid (B4.out.below hb2 hlt4)
       clear hb2 o0 l0_ l1_ x0_ x1_
       have o0 := B12.out.cell 0
       have l0_ := B22.out.cell 0
       have l1_ := B22.out.cell 1
       have x0_ := B42.out.cell 0
       have x1_ := B42.out.cell 1
       simp only [List.getElem?_toArray, List.getElem?_cons_zero, List.getElem?_cons_succ] at o0 l0_ l1_ x0_ x1_
       go_simp
       refine hK _ _ ?_
       clear hK K
       refine wpAnyIn_ready (rs := [4]) (by kernel_rfl) (by simp) ?_
       refine AllReadyIn.cons rfl (fun K hK => ?_) AllReadyIn.nil
       go_simp
       refine hK _ _ ?_
       clear hK K
       refine wpAnyIn_ready (rs := [5]) (by kernel_rfl) (by simp) ?_
       refine AllReadyIn.cons rfl (fun K hK => ?_) AllReadyIn.nil
       go_simp
       refine hK _ _ ?_
       clear hK K
       refine wpAnyIn_done (by kernel_rfl) ?_ _
       have f0 := B12.out.frozen 0
       have f1 := ((B22.out.far (p := ⟨w1.heap.size, 0, none⟩) (by show w1.heap.size + 1 ≠ w1.heap.size; omega) (.string (s0 ++ (⟨#[83]⟩ : ByteArray)))).frozen 0)
       have C1 := (B12.out.set 0 (.string (s0 ++ (⟨#[83]⟩ : ByteArray))))
       have C2 := (B22.out.far (p := ⟨w1.heap.size, 0, none⟩) (by show w1.heap.size + 1 ≠ w1.heap.size; omega) (.string (s0 ++ (⟨#[83]⟩ : ByteArray))))
       have C4 := (B42.out.far (p := ⟨w1.heap.size, 0, none⟩) (by show b ≠ w1.heap.size; omega) (.string (s0 ++ (⟨#[83]⟩ : ByteArray))))
       have y0 := C4.cell 0
       have y1 := C4.cell 1
       have y2 := C2.cell 0
       simp only [List.getElem?_toArray, List.getElem?_cons_zero, List.getElem?_cons_succ] at y0 y1 y2
       have C22 := fun u => C2.set 0 u
       have f2 := fun u => (C22 u).frozen 1
       have y3 := fun u => (C22 u).cell 1
       simp only [List.setIfInBounds_toArray, List.set_cons_zero, List.getElem?_toArray, List.getElem?_cons_zero, List.getElem?_cons_succ] at y3
       have HC2 := Lib.hid C2
       have HC1 := Lib.hid C1
       clear C1 C2 C4 C22
       gi_wp2
       refine ⟨(((keepsFrom_below HB2.out).trans ((KeepsOthers.setCell _ _ _).from _)).trans ((KeepsOthers.setCell _ _ _).from _)).trans ((KeepsOthers.setCell _ _ _).from _), trivial, ?_⟩
       refine ⟨by rw [HG.out]; exact ⟨(HC1.out.far (p := ⟨w1.heap.size + 1, 0, none⟩) (by show w1.heap.size ≠ w1.heap.size + 1; omega) _).far (p := ⟨w1.heap.size + 1, 1, none⟩) (by show w1.heap.size ≠ w1.heap.size + 1; omega) _, (HC2.out.set 0 _).set 1 _⟩, ?_⟩
       exact Below.setAt (Below.setAt (Below.setAt (below_then HB.out (by have := HB.out.size; omega) HB2.out) (b := w1.heap.size) (by omega) 0 _) (b := w1.heap.size + 1) (by omega) 0 _) (b := w1.heap.size + 1) (by omega) 1 _
      refine AllReadyIn.cons rfl (fun K hK => ?_) AllReadyIn.nil
      go_simp
      refine hK _ _ ?_
      clear hK K
      refine wpAnyIn_ready (rs := [1]) (by kernel_rfl) (by simp) ?_
      refine AllReadyIn.cons rfl (fun K hK => ?_) AllReadyIn.nil
      go_simp
      refine hK _ _ ?_
      clear hK K
      refine wpAnyIn_ready (rs := [3]) (by kernel_rfl) (by simp) ?_
      refine AllReadyIn.cons rfl (fun K hK => ?_) AllReadyIn.nil
      go_simp
      refine ⟨trivial, ((callsIn_wide.2 (gauge_plus.calls _ _ _ _ _ _ _ HP.out)).inRound lp).mono ?_⟩
      rintro e W2 ⟨rfl, hb2⟩
      replace hb2 : Below W.heap.size W W2 := ((Below.refl W.heap.size W).drew).trans hb2
      have HB2 := Lib.hid hb2
      have B12 := Lib.hid (B1.out.below hb2 hlt1)
      have B22 := Lib.hid (B2.out.below hb2 hlt2)
      have B42 := Lib.hid (B4.out.below hb2 hlt4)
      clear hb2 o0 l0_ l1_ x0_ x1_
      have o0 := B12.out.cell 0
      have l0_ := B22.out.cell 0
      have l1_ := B22.out.cell 1
      have x0_ := B42.out.cell 0
      have x1_ := B42.out.cell 1
      simp only [List.getElem?_toArray, List.getElem?_cons_zero, List.getElem?_cons_succ] at o0 l0_ l1_ x0_ x1_
      go_simp
      refine hK _ _ ?_
      clear hK K
      refine wpAnyIn_ready (rs := [4]) (by kernel_rfl) (by simp) ?_
      refine AllReadyIn.cons rfl (fun K hK => ?_) AllReadyIn.nil
      go_simp
      refine hK _ _ ?_
      clear hK K
      refine wpAnyIn_ready (rs := [5]) (by kernel_rfl) (by simp) ?_
      refine AllReadyIn.cons rfl (fun K hK => ?_) AllReadyIn.nil
      go_simp
      refine hK _ _ ?_
      clear hK K
      refine wpAnyIn_done (by kernel_rfl) ?_ _
      have f0 := B12.out.frozen 0
      have f1 := ((B22.out.far (p := ⟨w1.heap.size, 0, none⟩) (by show w1.heap.size + 1 ≠ w1.heap.size; omega) (.string (s0 ++ (⟨#[83]⟩ : ByteArray)))).frozen 0)
      have C1 := (B12.out.set 0 (.string (s0 ++ (⟨#[83]⟩ : ByteArray))))
      have C2 := (B22.out.far (p := ⟨w1.heap.size, 0, none⟩) (by show w1.heap.size + 1 ≠ w1.heap.size; omega) (.string (s0 ++ (⟨#[83]⟩ : ByteArray))))
      have C4 := (B42.out.far (p := ⟨w1.heap.size, 0, none⟩) (by show b ≠ w1.heap.size; omega) (.string (s0 ++ (⟨#[83]⟩ : ByteArray))))
      have y0 := C4.cell 0
      have y1 := C4.cell 1
      have y2 := C2.cell 0
      simp only [List.getElem?_toArray, List.getElem?_cons_zero, List.getElem?_cons_succ] at y0 y1 y2
      have C22 := fun u => C2.set 0 u
      have f2 := fun u => (C22 u).frozen 1
      have y3 := fun u => (C22 u).cell 1
      simp only [List.setIfInBounds_toArray, List.set_cons_zero, List.getElem?_toArray, List.getElem?_cons_zero, List.getElem?_cons_succ] at y3
      have HC2 := Lib.hid C2
      have HC1 := Lib.hid C1
      clear C1 C2 C4 C22
      gi_wp2
      refine ⟨(((keepsFrom_below HB2.out).trans ((KeepsOthers.setCell _ _ _).from _)).trans ((KeepsOthers.setCell _ _ _).from _)).trans ((KeepsOthers.setCell _ _ _).from _), trivial, ?_⟩
      refine ⟨by rw [HG.out]; exact ⟨(HC1.out.far (p := ⟨w1.heap.size + 1, 0, none⟩) (by show w1.heap.size ≠ w1.heap.size + 1; omega) _).far (p := ⟨w1.heap.size + 1, 1, none⟩) (by show w1.heap.size ≠ w1.heap.size + 1; omega) _, (HC2.out.set 0 _).set 1 _⟩, ?_⟩
      exact Below.setAt (Below.setAt (Below.setAt (below_then HB.out (by have := HB.out.size; omega) HB2.out) (b := w1.heap.size) (by omega) 0 _) (b := w1.heap.size + 1) (by omega) 0 _) (b := w1.heap.size + 1) (by omega) 1 _
     refine AllReadyIn.cons rfl (fun K hK => ?_) ?_
     ·go_simp
      refine hK _ _ ?_
      clear hK K
      refine wpAnyIn_ready (rs := [0, 2]) (by kernel_rfl) (by simp) ?_
      refine AllReadyIn.cons rfl (fun K hK => ?_) ?_
      ·go_simp
       refine hK _ _ ?_
       clear hK K
       refine wpAnyIn_ready (rs := [2]) (by kernel_rfl) (by simp) ?_
       refine AllReadyIn.cons rfl (fun K hK => ?_) AllReadyIn.nil
       go_simp
       refine hK _ _ ?_
       clear hK K
       refine wpAnyIn_ready (rs := [3]) (by kernel_rfl) (by simp) ?_
       refine AllReadyIn.cons rfl (fun K hK => ?_) AllReadyIn.nil
       go_simp
       refine ⟨trivial, ((callsIn_wide.2 (gauge_plus.calls _ _ _ _ _ _ _ HP.out)).inRound lp).mono ?_⟩
       rintro e W2 ⟨rfl, hb2⟩
       replace hb2 : Below W.heap.size W W2 := ((Below.refl W.heap.size W).drew).trans hb2
       have HB2 := Lib.hid hb2
       have B12 := Lib.hid (B1.out.below hb2 hlt1)
       have B22 := Lib.hid (B2.out.below hb2 hlt2)
       have B42 := Lib.hid (B4.out.below hb2 hlt4)
       clear hb2 o0 l0_ l1_ x0_ x1_
       have o0 := B12.out.cell 0
       have l0_ := B22.out.cell 0
       have l1_ := B22.out.cell 1
       have x0_ := B42.out.cell 0
       have x1_ := B42.out.cell 1
       simp only [List.getElem?_toArray, List.getElem?_cons_zero, List.getElem?_cons_succ] at o0 l0_ l1_ x0_ x1_
       go_simp
       refine hK _ _ ?_
       clear hK K
       refine wpAnyIn_ready (rs := [4]) (by kernel_rfl) (by simp) ?_
       refine AllReadyIn.cons rfl (fun K hK => ?_) AllReadyIn.nil
       go_simp
       refine hK _ _ ?_
       clear hK K
       refine wpAnyIn_ready (rs := [5]) (by kernel_rfl) (by simp) ?_
       refine AllReadyIn.cons rfl (fun K hK => ?_) AllReadyIn.nil
       go_simp
       refine hK _ _ ?_
       clear hK K
       refine wpAnyIn_done (by kernel_rfl) ?_ _
       have f0 := B12.out.frozen 0
       have f1 := ((B22.out.far (p := ⟨w1.heap.size, 0, none⟩) (by show w1.heap.size + 1 ≠ w1.heap.size; omega) (.string (s0 ++ (⟨#[83]⟩ : ByteArray)))).frozen 0)
       have C1 := (B12.out.set 0 (.string (s0 ++ (⟨#[83]⟩ : ByteArray))))
       have C2 := (B22.out.far (p := ⟨w1.heap.size, 0, none⟩) (by show w1.heap.size + 1 ≠ w1.heap.size; omega) (.string (s0 ++ (⟨#[83]⟩ : ByteArray))))
       have C4 := (B42.out.far (p := ⟨w1.heap.size, 0, none⟩) (by show b ≠ w1.heap.size; omega) (.string (s0 ++ (⟨#[83]⟩ : ByteArray))))
       have y0 := C4.cell 0
       have y1 := C4.cell 1
       have y2 := C2.cell 0
       simp only [List.getElem?_toArray, List.getElem?_cons_zero, List.getElem?_cons_succ] at y0 y1 y2
       have C22 := fun u => C2.set 0 u
       have f2 := fun u => (C22 u).frozen 1
       have y3 := fun u => (C22 u).cell 1
       simp only [List.setIfInBounds_toArray, List.set_cons_zero, List.getElem?_toArray, List.getElem?_cons_zero, List.getElem?_cons_succ] at y3
       have HC2 := Lib.hid C2
       have HC1 := Lib.hid C1
       clear C1 C2 C4 C22
       gi_wp2
       refine ⟨(((keepsFrom_below HB2.out).trans ((KeepsOthers.setCell _ _ _).from _)).trans ((KeepsOthers.setCell _ _ _).from _)).trans ((KeepsOthers.setCell _ _ _).from _), trivial, ?_⟩
       refine ⟨by rw [HG.out]; exact ⟨(HC1.out.far (p := ⟨w1.heap.size + 1, 0, none⟩) (by show w1.heap.size ≠ w1.heap.size + 1; omega) _).far (p := ⟨w1.heap.size + 1, 1, none⟩) (by show w1.heap.size ≠ w1.heap.size + 1; omega) _, (HC2.out.set 0 _).set 1 _⟩, ?_⟩
       exact Below.setAt (Below.setAt (Below.setAt (below_then HB.out (by have := HB.out.size; omega) HB2.out) (b := w1.heap.size) (by omega) 0 _) (b := w1.heap.size + 1) (by omega) 0 _) (b := w1.heap.size + 1) (by omega) 1 _
      refine AllReadyIn.cons rfl (fun K hK => ?_) AllReadyIn.nil
      go_simp
      refine hK _ _ ?_
      clear hK K
      refine wpAnyIn_ready (rs := [0, 3]) (by kernel_rfl) (by simp) ?_
      refine AllReadyIn.cons rfl (fun K hK => ?_) ?_
      ·go_simp
       refine hK _ _ ?_
       clear hK K
       refine wpAnyIn_ready (rs := [3]) (by kernel_rfl) (by simp) ?_
       refine AllReadyIn.cons rfl (fun K hK => ?_) AllReadyIn.nil
       go_simp
       refine ⟨trivial, ((callsIn_wide.2 (gauge_plus.calls _ _ _ _ _ _ _ HP.out)).inRound lp).mono ?_⟩
       rintro e W2 ⟨rfl, hb2⟩
       replace hb2 : Below W.heap.size W W2 := ((Below.refl W.heap.size W).drew).trans hb2
       have HB2 := Lib.hid hb2
       have B12 := Lib.hid (B1.out.below hb2 hlt1)
       have B22 := Lib.hid (B2.out.below hb2 hlt2)
       have B42 := Lib.hid (B4.out.below hb2 hlt4)
       clear hb2 o0 l0_ l1_ x0_ x1_
       have o0 := B12.out.cell 0
       have l0_ := B22.out.cell 0
       have l1_ := B22.out.cell 1
       have x0_ := B42.out.cell 0
       have x1_ := B42.out.cell 1
       simp only [List.getElem?_toArray, List.getElem?_cons_zero, List.getElem?_cons_succ] at o0 l0_ l1_ x0_ x1_
       go_simp
       refine hK _ _ ?_
       clear hK K
       refine wpAnyIn_ready (rs := [4]) (by kernel_rfl) (by simp) ?_
       refine AllReadyIn.cons rfl (fun K hK => ?_) AllReadyIn.nil
       go_simp
       refine hK _ _ ?_
       clear hK K
       refine wpAnyIn_ready (rs := [5]) (by kernel_rfl) (by simp) ?_
       refine AllReadyIn.cons rfl (fun K hK => ?_) AllReadyIn.nil
       go_simp
       refine hK _ _ ?_
       clear hK K
       refine wpAnyIn_done (by kernel_rfl) ?_ _
       have f0 := B12.out.frozen 0
       have f1 := ((B22.out.far (p := ⟨w1.heap.size, 0, none⟩) (by show w1.heap.size + 1 ≠ w1.heap.size; omega) (.string (s0 ++ (⟨#[83]⟩ : ByteArray)))).frozen 0)
       have C1 := (B12.out.set 0 (.string (s0 ++ (⟨#[83]⟩ : ByteArray))))
       have C2 := (B22.out.far (p := ⟨w1.heap.size, 0, none⟩) (by show w1.heap.size + 1 ≠ w1.heap.size; omega) (.string (s0 ++ (⟨#[83]⟩ : ByteArray))))
       have C4 := (B42.out.far (p := ⟨w1.heap.size, 0, none⟩) (by show b ≠ w1.heap.size; omega) (.string (s0 ++ (⟨#[83]⟩ : ByteArray))))
       have y0 := C4.cell 0
       have y1 := C4.cell 1
       have y2 := C2.cell 0
       simp only [List.getElem?_toArray, List.getElem?_cons_zero, List.getElem?_cons_succ] at y0 y1 y2
       have C22 := fun u => C2.set 0 u
       have f2 := fun u => (C22 u).frozen 1
       have y3 := fun u => (C22 u).cell 1
       simp only [List.setIfInBounds_toArray, List.set_cons_zero, List.getElem?_toArray, List.getElem?_cons_zero, List.getElem?_cons_succ] at y3
       have HC2 := Lib.hid C2
       have HC1 := Lib.hid C1
       clear C1 C2 C4 C22
       gi_wp2
       refine ⟨(((keepsFrom_below HB2.out).trans ((KeepsOthers.setCell _ _ _).from _)).trans ((KeepsOthers.setCell _ _ _).from _)).trans ((KeepsOthers.setCell _ _ _).from _), trivial, ?_⟩
       refine ⟨by rw [HG.out]; exact ⟨(HC1.out.far (p := ⟨w1.heap.size + 1, 0, none⟩) (by show w1.heap.size ≠ w1.heap.size + 1; omega) _).far (p := ⟨w1.heap.size + 1, 1, none⟩) (by show w1.heap.size ≠ w1.heap.size + 1; omega) _, (HC2.out.set 0 _).set 1 _⟩, ?_⟩
       exact Below.setAt (Below.setAt (Below.setAt (below_then HB.out (by have := HB.out.size; omega) HB2.out) (b := w1.heap.size) (by omega) 0 _) (b := w1.heap.size + 1) (by omega) 0 _) (b := w1.heap.size + 1) (by omega) 1 _
      refine AllReadyIn.cons rfl (fun K hK => ?_) AllReadyIn.nil
      go_simp
      refine ⟨trivial, ((callsIn_wide.2 (gauge_plus.calls _ _ _ _ _ _ _ HP.out)).inRound lp).mono ?_⟩
      rintro e W2 ⟨rfl, hb2⟩
      replace hb2 : Below W.heap.size W W2 := ((Below.refl W.heap.size W).drew).trans hb2
      have HB2 := Lib.hid hb2
      have B12 := Lib.hid (B1.out.below hb2 hlt1)
      have B22 := Lib.hid (B2.out.below hb2 hlt2)
      have B42 := Lib.hid (B4.out.below hb2 hlt4)
      clear hb2 o0 l0_ l1_ x0_ x1_
      have o0 := B12.out.cell 0
      have l0_ := B22.out.cell 0
      have l1_ := B22.out.cell 1
      have x0_ := B42.out.cell 0
      have x1_ := B42.out.cell 1
      simp only [List.getElem?_toArray, List.getElem?_cons_zero, List.getElem?_cons_succ] at o0 l0_ l1_ x0_ x1_
      go_simp
      refine hK _ _ ?_
      clear hK K
      refine wpAnyIn_ready (rs := [0]) (by kernel_rfl) (by simp) ?_
      refine AllReadyIn.cons rfl (fun K hK => ?_) AllReadyIn.nil
      go_simp
      refine hK _ _ ?_
      clear hK K
      refine wpAnyIn_ready (rs := [4]) (by kernel_rfl) (by simp) ?_
      refine AllReadyIn.cons rfl (fun K hK => ?_) AllReadyIn.nil
      go_simp
      refine hK _ _ ?_
      clear hK K
      refine wpAnyIn_ready (rs := [5]) (by kernel_rfl) (by simp) ?_
      refine AllReadyIn.cons rfl (fun K hK => ?_) AllReadyIn.nil
      go_simp
      refine hK _ _ ?_
      clear hK K
      refine wpAnyIn_done (by kernel_rfl) ?_ _
      have f0 := B12.out.frozen 0
      have f1 := ((B22.out.far (p := ⟨w1.heap.size, 0, none⟩) (by show w1.heap.size + 1 ≠ w1.heap.size; omega) (.string (s0 ++ (⟨#[83]⟩ : ByteArray)))).frozen 0)
      have C1 := (B12.out.set 0 (.string (s0 ++ (⟨#[83]⟩ : ByteArray))))
      have C2 := (B22.out.far (p := ⟨w1.heap.size, 0, none⟩) (by show w1.heap.size + 1 ≠ w1.heap.size; omega) (.string (s0 ++ (⟨#[83]⟩ : ByteArray))))
      have C4 := (B42.out.far (p := ⟨w1.heap.size, 0, none⟩) (by show b ≠ w1.heap.size; omega) (.string (s0 ++ (⟨#[83]⟩ : ByteArray))))
      have y0 := C4.cell 0
      have y1 := C4.cell 1
      have y2 := C2.cell 0
      simp only [List.getElem?_toArray, List.getElem?_cons_zero, List.getElem?_cons_succ] at y0 y1 y2
      have C22 := fun u => C2.set 0 u
      have f2 := fun u => (C22 u).frozen 1
      have y3 := fun u => (C22 u).cell 1
      simp only [List.setIfInBounds_toArray, List.set_cons_zero, List.getElem?_toArray, List.getElem?_cons_zero, List.getElem?_cons_succ] at y3
      have HC2 := Lib.hid C2
      have HC1 := Lib.hid C1
      clear C1 C2 C4 C22
      gi_wp2
      refine ⟨(((keepsFrom_below HB2.out).trans ((KeepsOthers.setCell _ _ _).from _)).trans ((KeepsOthers.setCell _ _ _).from _)).trans ((KeepsOthers.setCell _ _ _).from _), trivial, ?_⟩
      refine ⟨by rw [HG.out]; exact ⟨(HC1.out.far (p := ⟨w1.heap.size + 1, 0, none⟩) (by show w1.heap.size ≠ w1.heap.size + 1; omega) _).far (p := ⟨w1.heap.size + 1, 1, none⟩) (by show w1.heap.size ≠ w1.heap.size + 1; omega) _, (HC2.out.set 0 _).set 1 _⟩, ?_⟩
      exact Below.setAt (Below.setAt (Below.setAt (below_then HB.out (by have := HB.out.size; omega) HB2.out) (b := w1.heap.size) (by omega) 0 _) (b := w1.heap.size + 1) (by omega) 0 _) (b := w1.heap.size + 1) (by omega) 1 _
     refine AllReadyIn.cons rfl (fun K hK => ?_) AllReadyIn.nil
     go_simp
     refine hK _ _ ?_
     clear hK K
     refine wpAnyIn_ready (rs := [0, 1]) (by kernel_rfl) (by simp) ?_
     refine AllReadyIn.cons rfl (fun K hK => ?_) ?_
     ·go_simp
      refine hK _ _ ?_
      clear hK K
      refine wpAnyIn_ready (rs := [1]) (by kernel_rfl) (by simp) ?_
      refine AllReadyIn.cons rfl (fun K hK => ?_) AllReadyIn.nil
      go_simp
      refine hK _ _ ?_
      clear hK K
      refine wpAnyIn_ready (rs := [3]) (by kernel_rfl) (by simp) ?_
      refine AllReadyIn.cons rfl (fun K hK => ?_) AllReadyIn.nil
      go_simp
      refine ⟨trivial, ((callsIn_wide.2 (gauge_plus.calls _ _ _ _ _ _ _ HP.out)).inRound lp).mono ?_⟩
      rintro e W2 ⟨rfl, hb2⟩
      replace hb2 : Below W.heap.size W W2 := ((Below.refl W.heap.size W).drew).trans hb2
      have HB2 := Lib.hid hb2
      have B12 := Lib.hid (B1.out.below hb2 hlt1)
      have B22 := Lib.hid (B2.out.below hb2 hlt2)
      have B42 := Lib.hid (B4.out.below hb2 hlt4)
      clear hb2 o0 l0_ l1_ x0_ x1_
      have o0 := B12.out.cell 0
      have l0_ := B22.out.cell 0
      have l1_ := B22.out.cell 1
      have x0_ := B42.out.cell 0
      have x1_ := B42.out.cell 1
      simp only [List.getElem?_toArray, List.getElem?_cons_zero, List.getElem?_cons_succ] at o0 l0_ l1_ x0_ x1_
      go_simp
      refine hK _ _ ?_
      clear hK K
      refine wpAnyIn_ready (rs := [4]) (by kernel_rfl) (by simp) ?_
      refine AllReadyIn.cons rfl (fun K hK => ?_) AllReadyIn.nil
      go_simp
      refine hK _ _ ?_
      clear hK K
      refine wpAnyIn_ready (rs := [5]) (by kernel_rfl) (by simp) ?_
      refine AllReadyIn.cons rfl (fun K hK => ?_) AllReadyIn.nil
      go_simp
      refine hK _ _ ?_
      clear hK K
      refine wpAnyIn_done (by kernel_rfl) ?_ _
      have f0 := B12.out.frozen 0
      have f1 := ((B22.out.far (p := ⟨w1.heap.size, 0, none⟩) (by show w1.heap.size + 1 ≠ w1.heap.size; omega) (.string (s0 ++ (⟨#[83]⟩ : ByteArray)))).frozen 0)
      have C1 := (B12.out.set 0 (.string (s0 ++ (⟨#[83]⟩ : ByteArray))))
      have C2 := (B22.out.far (p := ⟨w1.heap.size, 0, none⟩) (by show w1.heap.size + 1 ≠ w1.heap.size; omega) (.string (s0 ++ (⟨#[83]⟩ : ByteArray))))
      have C4 := (B42.out.far (p := ⟨w1.heap.size, 0, none⟩) (by show b ≠ w1.heap.size; omega) (.string (s0 ++ (⟨#[83]⟩ : ByteArray))))
      have y0 := C4.cell 0
      have y1 := C4.cell 1
      have y2 := C2.cell 0
      simp only [List.getElem?_toArray, List.getElem?_cons_zero, List.getElem?_cons_succ] at y0 y1 y2
      have C22 := fun u => C2.set 0 u
      have f2 := fun u => (C22 u).frozen 1
      have y3 := fun u => (C22 u).cell 1
      simp only [List.setIfInBounds_toArray, List.set_cons_zero, List.getElem?_toArray, List.getElem?_cons_zero, List.getElem?_cons_succ] at y3
      have HC2 := Lib.hid C2
      have HC1 := Lib.hid C1
      clear C1 C2 C4 C22
      gi_wp2
      refine ⟨(((keepsFrom_below HB2.out).trans ((KeepsOthers.setCell _ _ _).from _)).trans ((KeepsOthers.setCell _ _ _).from _)).trans ((KeepsOthers.setCell _ _ _).from _), trivial, ?_⟩
      refine ⟨by rw [HG.out]; exact ⟨(HC1.out.far (p := ⟨w1.heap.size + 1, 0, none⟩) (by show w1.heap.size ≠ w1.heap.size + 1; omega) _).far (p := ⟨w1.heap.size + 1, 1, none⟩) (by show w1.heap.size ≠ w1.heap.size + 1; omega) _, (HC2.out.set 0 _).set 1 _⟩, ?_⟩
      exact Below.setAt (Below.setAt (Below.setAt (below_then HB.out (by have := HB.out.size; omega) HB2.out) (b := w1.heap.size) (by omega) 0 _) (b := w1.heap.size + 1) (by omega) 0 _) (b := w1.heap.size + 1) (by omega) 1 _
     refine AllReadyIn.cons rfl (fun K hK => ?_) AllReadyIn.nil
     go_simp
     refine hK _ _ ?_
     clear hK K
     refine wpAnyIn_ready (rs := [0, 3]) (by kernel_rfl) (by simp) ?_
     refine AllReadyIn.cons rfl (fun K hK => ?_) ?_
     ·go_simp
      refine hK _ _ ?_
      clear hK K
      refine wpAnyIn_ready (rs := [3]) (by kernel_rfl) (by simp) ?_
      refine AllReadyIn.cons rfl (fun K hK => ?_) AllReadyIn.nil
      go_simp
      refine ⟨trivial, ((callsIn_wide.2 (gauge_plus.calls _ _ _ _ _ _ _ HP.out)).inRound lp).mono ?_⟩
      rintro e W2 ⟨rfl, hb2⟩
      replace hb2 : Below W.heap.size W W2 := ((Below.refl W.heap.size W).drew).trans hb2
      have HB2 := Lib.hid hb2
      have B12 := Lib.hid (B1.out.below hb2 hlt1)
      have B22 := Lib.hid (B2.out.below hb2 hlt2)
      have B42 := Lib.hid (B4.out.below hb2 hlt4)
      clear hb2 o0 l0_ l1_ x0_ x1_
      have o0 := B12.out.cell 0
      have l0_ := B22.out.cell 0
      have l1_ := B22.out.cell 1
      have x0_ := B42.out.cell 0
      have x1_ := B42.out.cell 1
      simp only [List.getElem?_toArray, List.getElem?_cons_zero, List.getElem?_cons_succ] at o0 l0_ l1_ x0_ x1_
      go_simp
      refine hK _ _ ?_
      clear hK K
      refine wpAnyIn_ready (rs := [4]) (by kernel_rfl) (by simp) ?_
      refine AllReadyIn.cons rfl (fun K hK => ?_) AllReadyIn.nil
      go_simp
      refine hK _ _ ?_
      clear hK K
      refine wpAnyIn_ready (rs := [5]) (by kernel_rfl) (by simp) ?_
      refine AllReadyIn.cons rfl (fun K hK => ?_) AllReadyIn.nil
      go_simp
      refine hK _ _ ?_
      clear hK K
      refine wpAnyIn_done (by kernel_rfl) ?_ _
      have f0 := B12.out.frozen 0
      have f1 := ((B22.out.far (p := ⟨w1.heap.size, 0, none⟩) (by show w1.heap.size + 1 ≠ w1.heap.size; omega) (.string (s0 ++ (⟨#[83]⟩ : ByteArray)))).frozen 0)
      have C1 := (B12.out.set 0 (.string (s0 ++ (⟨#[83]⟩ : ByteArray))))
      have C2 := (B22.out.far (p := ⟨w1.heap.size, 0, none⟩) (by show w1.heap.size + 1 ≠ w1.heap.size; omega) (.string (s0 ++ (⟨#[83]⟩ : ByteArray))))
      have C4 := (B42.out.far (p := ⟨w1.heap.size, 0, none⟩) (by show b ≠ w1.heap.size; omega) (.string (s0 ++ (⟨#[83]⟩ : ByteArray))))
      have y0 := C4.cell 0
      have y1 := C4.cell 1
      have y2 := C2.cell 0
      simp only [List.getElem?_toArray, List.getElem?_cons_zero, List.getElem?_cons_succ] at y0 y1 y2
      have C22 := fun u => C2.set 0 u
      have f2 := fun u => (C22 u).frozen 1
      have y3 := fun u => (C22 u).cell 1
      simp only [List.setIfInBounds_toArray, List.set_cons_zero, List.getElem?_toArray, List.getElem?_cons_zero, List.getElem?_cons_succ] at y3
      have HC2 := Lib.hid C2
      have HC1 := Lib.hid C1
      clear C1 C2 C4 C22
      gi_wp2
      refine ⟨(((keepsFrom_below HB2.out).trans ((KeepsOthers.setCell _ _ _).from _)).trans ((KeepsOthers.setCell _ _ _).from _)).trans ((KeepsOthers.setCell _ _ _).from _), trivial, ?_⟩
      refine ⟨by rw [HG.out]; exact ⟨(HC1.out.far (p := ⟨w1.heap.size + 1, 0, none⟩) (by show w1.heap.size ≠ w1.heap.size + 1; omega) _).far (p := ⟨w1.heap.size + 1, 1, none⟩) (by show w1.heap.size ≠ w1.heap.size + 1; omega) _, (HC2.out.set 0 _).set 1 _⟩, ?_⟩
      exact Below.setAt (Below.setAt (Below.setAt (below_then HB.out (by have := HB.out.size; omega) HB2.out) (b := w1.heap.size) (by omega) 0 _) (b := w1.heap.size + 1) (by omega) 0 _) (b := w1.heap.size + 1) (by omega) 1 _
     refine AllReadyIn.cons rfl (fun K hK => ?_) AllReadyIn.nil
     go_simp
     refine ⟨trivial, ((callsIn_wide.2 (gauge_plus.calls _ _ _ _ _ _ _ HP.out)).inRound lp).mono ?_⟩
     rintro e W2 ⟨rfl, hb2⟩
     replace hb2 : Below W.heap.size W W2 := ((Below.refl W.heap.size W).drew).trans hb2
     have HB2 := Lib.hid hb2
     have B12 := Lib.hid (B1.out.below hb2 hlt1)
     have B22 := Lib.hid (B2.out.below hb2 hlt2)
     have B42 := Lib.hid (B4.out.below hb2 hlt4)
     clear hb2 o0 l0_ l1_ x0_ x1_
     have o0 := B12.out.cell 0
     have l0_ := B22.out.cell 0
     have l1_ := B22.out.cell 1
     have x0_ := B42.out.cell 0
     have x1_ := B42.out.cell 1
     simp only [List.getElem?_toArray, List.getElem?_cons_zero, List.getElem?_cons_succ] at o0 l0_ l1_ x0_ x1_
     go_simp
     refine hK _ _ ?_
     clear hK K
     refine wpAnyIn_ready (rs := [0]) (by kernel_rfl) (by simp) ?_
     refine AllReadyIn.cons rfl (fun K hK => ?_) AllReadyIn.nil
     go_simp
     refine hK _ _ ?_
     clear hK K
     refine wpAnyIn_ready (rs := [4]) (by kernel_rfl) (by simp) ?_
     refine AllReadyIn.cons rfl (fun K hK => ?_) AllReadyIn.nil
     go_simp
     refine hK _ _ ?_
     clear hK K
     refine wpAnyIn_ready (rs := [5]) (by kernel_rfl) (by simp) ?_
     refine AllReadyIn.cons rfl (fun K hK => ?_) AllReadyIn.nil
     go_simp
     refine hK _ _ ?_
     clear hK K
     refine wpAnyIn_done (by kernel_rfl) ?_ _
     have f0 := B12.out.frozen 0
     have f1 := ((B22.out.far (p := ⟨w1.heap.size, 0, none⟩) (by show w1.heap.size + 1 ≠ w1.heap.size; omega) (.string (s0 ++ (⟨#[83]⟩ : ByteArray)))).frozen 0)
     have C1 := (B12.out.set 0 (.string (s0 ++ (⟨#[83]⟩ : ByteArray))))
     have C2 := (B22.out.far (p := ⟨w1.heap.size, 0, none⟩) (by show w1.heap.size + 1 ≠ w1.heap.size; omega) (.string (s0 ++ (⟨#[83]⟩ : ByteArray))))
     have C4 := (B42.out.far (p := ⟨w1.heap.size, 0, none⟩) (by show b ≠ w1.heap.size; omega) (.string (s0 ++ (⟨#[83]⟩ : ByteArray))))
     have y0 := C4.cell 0
     have y1 := C4.cell 1
     have y2 := C2.cell 0
     simp only [List.getElem?_toArray, List.getElem?_cons_zero, List.getElem?_cons_succ] at y0 y1 y2
     have C22 := fun u => C2.set 0 u
     have f2 := fun u => (C22 u).frozen 1
     have y3 := fun u => (C22 u).cell 1
     simp only [List.setIfInBounds_toArray, List.set_cons_zero, List.getElem?_toArray, List.getElem?_cons_zero, List.getElem?_cons_succ] at y3
     have HC2 := Lib.hid C2
     have HC1 := Lib.hid C1
     clear C1 C2 C4 C22
     gi_wp2
     refine ⟨(((keepsFrom_below HB2.out).trans ((KeepsOthers.setCell _ _ _).from _)).trans ((KeepsOthers.setCell _ _ _).from _)).trans ((KeepsOthers.setCell _ _ _).from _), trivial, ?_⟩
     refine ⟨by rw [HG.out]; exact ⟨(HC1.out.far (p := ⟨w1.heap.size + 1, 0, none⟩) (by show w1.heap.size ≠ w1.heap.size + 1; omega) _).far (p := ⟨w1.heap.size + 1, 1, none⟩) (by show w1.heap.size ≠ w1.heap.size + 1; omega) _, (HC2.out.set 0 _).set 1 _⟩, ?_⟩
     exact Below.setAt (Below.setAt (Below.setAt (below_then HB.out (by have := HB.out.size; omega) HB2.out) (b := w1.heap.size) (by omega) 0 _) (b := w1.heap.size + 1) (by omega) 0 _) (b := w1.heap.size + 1) (by omega) 1 _
 case done =>
  rintro D ys W hD rfl ⟨⟨b1, b2⟩, hB⟩ hK
  have c1 := b1.cell 0
  simp only [List.getElem?_toArray, List.getElem?_cons_zero, List.getElem?_cons_succ] at c1
  gi_wp2
  refine ⟨by simp, .inl ⟨_, _, rfl, run_takeDeferred hK, ?_⟩⟩
  exact ⟨.tuple #[.string (gapL (rungL 6)).1, .int .i64 0], by simp [results, Try.results115, go_sem], rfl, (Below.putObj hB (by omega) _) |> fun h => HB1.out.trans (h.mono HB1.out.size)⟩
 case stop =>
  rintro D c pre W _ _ h _
  exact h.elim

/-- gauge.Gaps, where it is asked. -/
def gauge_Gaps.f (n : Int) : Option (ByteArray × Int) := if n = 5 then some (⟨#[76, 83, 76, 76, 83]⟩, 0) else none
theorem gaps_row : (gapL [(0, 0), (1, 0), (0, 1), (1, 1), (2, 1), (1, 2)]).1 = (⟨#[76, 83, 76, 76, 83]⟩ : ByteArray) := by kernel_rfl
theorem gaps_is : (gapL (rungL 6)).1 = (⟨#[76, 83, 76, 76, 83]⟩ : ByteArray) := by
 have h : rungL 6 = [(0, 0), (1, 0), (0, 1), (1, 1), (2, 1), (1, 2)] := by
  obtain ⟨h0, h1, h2, h3, h4, h5⟩ := rungs_is
  show [rungW 0, rungW 1, rungW 2, rungW 3, rungW 4, rungW 5] = _
  rw [h0, h1, h2, h3, h4, h5]
 rw [h]
 exact gaps_row
theorem gauge_Gaps.calls (a0 : Int) (r1 : ByteArray) (r2 : Int) (w : World) (h : gauge_Gaps.f a0 = some (r1, r2)) :
  Calls Try.prog 115 #[.int .i64 a0] w fun e w' => e = .returned (.tuple #[.string r1, .int .i64 r2]) ∧ Below w.heap.size w w' := by
 unfold gauge_Gaps.f at h
 split at h
 ·rename_i h5
  subst h5
  cases h
  have := gaps5 w
  rw [gaps_is] at this
  exact this
 ·cases h
end Go.Proofs.Ytkefmlhkejoknaa.L
