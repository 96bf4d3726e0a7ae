/- slices.SortFunc with slices.Compare on rows of the call's own. -/
import Derived.Shelf.SlSortCmp.NoneTotal
import Derived.Ground.SlsfProg
import Derived.Sort.OwnSortedInts
import Derived.Test.YtkefmlhkejoknabXRows
import Derived.Test.YtkefmlhkejoknabP34
namespace Go.Proofs.Ytkefmlhkejoknab.L
open Go.RowKit Go.Shelf Go.Lib Go.Sort Go.Proofs.YtkefmlhkejoknabW.PrintWords Go.Proofs.YtkefmlhkejoknabW.PrintLast Go.Proofs.YtkefmlhkejoknabW.PrintMore
set_option linter.unusedVariables false
set_option linter.unusedSimpArgs false

section
variable {α : Type} [Inhabited α] {enc : α → Value}
theorem holds_of_blockE {w : World} {g : Nat} {cur : Array Value} {e : TypeId} {ss : List α} (hb : w.heap[g]? = some (.cells cur e (0, 0))) (ht : cur.toList.take ss.length = ss.map enc) : Holds enc w g 0 ss.toArray := by
  intro j hj
  have hj' : j < ss.length := by simpa using hj
  refine ⟨?_, by simp [World.frozen?, hb]⟩
  have h1 : (cur.toList.take ss.length)[j]? = (ss.map enc)[j]? := by rw [ht]
  rw [List.getElem?_take_of_lt hj'] at h1
  simp only [World.cell?, hb, Nat.zero_add]
  simp only [Option.isSome_none, Bool.false_eq_true, if_false]
  rw [← Array.getElem?_toList, h1]
  simp [hj']
theorem heap_sortedE {w : World} {g n : Nat} {os : Array Obj} {cur : Array Value} {e : TypeId} {fr : Nat × Nat} (d : Array α) (hb : w.heap[g]? = some (.cells cur e fr)) :
    (grow (putRow enc (Sort.ahead w n) g 0 d) os).heap[g]? = some (.cells (putCells enc 0 d cur) e fr) := by
  have hg : g < w.heap.size := (Array.getElem?_eq_some_iff.1 hb).1
  rw [heap_grow_old _ _ (by simpa using hg)]
  simp [putRow, mapBlock, Sort.ahead, Array.getElem?_modify, hb, onCells]
theorem grownBy_sortedE {w : World} {g n : Nat} {os : Array Obj} (d : Array α) : w.grownBy (grow (putRow enc (Sort.ahead w n) g 0 d) os) (some g) := by
  refine ⟨rfl, rfl, rfl, by simp, fun k hk hne => ?_⟩
  rw [heap_grow_old _ _ (by simpa using hk)]
  have : g ≠ k := fun e => hne (by rw [e])
  simp [putRow, mapBlock, Sort.ahead, Array.getElem?_modify, this]
theorem take_putCellsE (cur : Array Value) (ts : List α) (h : ts.length ≤ cur.size) : (putCells enc 0 ts.toArray cur).toList.take ts.length = ts.map enc := by
  apply List.ext_getElem?
  intro j
  by_cases hj : j < ts.length
  · rw [List.getElem?_take_of_lt hj, Array.getElem?_toList]
    simp [putCells, hj, show j < cur.size by omega]
  · rw [List.getElem?_take_eq_none (by omega), List.getElem?_eq_none (by simp; omega)]
theorem ownsRow_sortedE {w : World} {base g cap n : Nat} {e : TypeId} {os : Array Obj} {cur : Array Value} {ss ts : List α} (hl : ts.length = ss.length) (hbase : base ≤ g) (hb : w.heap[g]? = some (.cells cur e (0, 0)))
    (h1 : ss.length ≤ cap) (h2 : cap ≤ maxLen) (h3 : cur.size = cap * 1) :
    (grow (putRow enc (Sort.ahead w n) g 0 ts.toArray) os).ownsRow base e 1 (.slice (some ⟨g, 0, none⟩) ss.length cap) ss.length (ts.map enc) :=
  ⟨by simp [hl], .inr ⟨g, cap, _, rfl, hbase, heap_sortedE _ hb, h1, h2, by simp [putCells, h3], by rw [Nat.mul_one, ← hl]; exact take_putCellsE cur ts (by omega)⟩⟩
end


def Aps.sortA_ren : Go.Shelf.Ren := ⟨fun | 6 => 26 | 15 => 59 | 14 => 58 | 28 => 86 | 29 => 87 | 20 => 78 | 21 => 79 | 22 => 80 | 23 => 81 | 24 => 82 | 25 => 83 | 26 => 84 | 27 => 85 | 46 => 92 | 47 => 93 | 48 => 94 | 49 => 95 | 50 => 96 | 57 => 106 | n => n, fun | 22 => 24 | 24 => 33 | 25 => 60 | 3 => 3 | 39 => 83 | 0 => 0 | 53 => 134 | 55 => 136 | 4 => 4 | 46 => 128 | 45 => 127 | 50 => 76 | 5 => 5 | 9 => 9 | 66 => 140 | 70 => 144 | 76 => 151 | 77 => 152 | n => n, fun | n => n⟩
theorem Aps.sortA : Go.Proofs.SlLaysF.n6 Try.prog Aps.sortA_ren := {
  mixed := by kernel_rfl
  f6 := ⟨Try.f26.name, by decide, Try.func26.trans (congrArg some (by kernel_rfl))⟩
  f14 := ⟨Try.f58.name, by decide, Try.func58.trans (congrArg some (by kernel_rfl))⟩
  f15 := Try.func59.trans (congrArg some (by kernel_rfl))
  f20 := ⟨Try.f78.name, by decide, Try.func78.trans (congrArg some (by kernel_rfl))⟩
  f21 := ⟨Try.f79.name, by decide, Try.func79.trans (congrArg some (by kernel_rfl))⟩
  f22 := ⟨Try.f80.name, by decide, Try.func80.trans (congrArg some (by kernel_rfl))⟩
  f23 := ⟨Try.f81.name, by decide, Try.func81.trans (congrArg some (by kernel_rfl))⟩
  f24 := ⟨Try.f82.name, by decide, Try.func82.trans (congrArg some (by kernel_rfl))⟩
  f25 := ⟨Try.f83.name, by decide, Try.func83.trans (congrArg some (by kernel_rfl))⟩
  f26 := ⟨Try.f84.name, by decide, Try.func84.trans (congrArg some (by kernel_rfl))⟩
  f27 := ⟨Try.f85.name, by decide, Try.func85.trans (congrArg some (by kernel_rfl))⟩
  f28 := Try.func86.trans (congrArg some (by kernel_rfl))
  f29 := Try.func87.trans (congrArg some (by kernel_rfl))
  f46 := ⟨Try.f92.name, by decide, Try.func92.trans (congrArg some (by kernel_rfl))⟩
  f47 := Try.func93.trans (congrArg some (by kernel_rfl))
  f48 := Try.func94.trans (congrArg some (by kernel_rfl))
  f49 := ⟨Try.f95.name, by decide, Try.func95.trans (congrArg some (by kernel_rfl))⟩
  f50 := ⟨Try.f96.name, by decide, Try.func96.trans (congrArg some (by kernel_rfl))⟩
  f57 := ⟨Try.f106.name, by decide, Try.func106.trans (congrArg some (by kernel_rfl))⟩
  t0 := Try.underlying0
  a0 := Try.isAgg0
  z0 := Try.sizeOf0
  v0 := Try.zeroValue0
  t3 := Try.underlying3
  a3 := Try.isAgg3
  z3 := Try.sizeOf3
  v3 := Try.zeroValue3
  t4 := Try.underlying4
  a4 := Try.isAgg4
  z4 := Try.sizeOf4
  v4 := Try.zeroValue4
  t5 := Try.underlying5
  a5 := Try.isAgg5
  z5 := Try.sizeOf5
  v5 := Try.zeroValue5
  t9 := Try.underlying9
  a9 := Try.isAgg9
  z9 := Try.sizeOf9
  v9 := Try.zeroValue9
  t22 := Try.underlying24
  a22 := Try.isAgg24
  z22 := Try.sizeOf24
  v22 := Try.zeroValue24
  a24 := Try.isAgg33
  z24 := Try.sizeOf33
  t25 := Try.underlying60
  a25 := Try.isAgg60
  z25 := Try.sizeOf60
  v25 := Try.zeroValue60
  t39 := Try.underlying83
  a39 := Try.isAgg83
  z39 := Try.sizeOf83
  v39 := Try.zeroValue83
  t45 := Try.underlying127
  a45 := Try.isAgg127
  z45 := Try.sizeOf127
  v45 := Try.zeroValue127
  t46 := Try.underlying128
  a46 := Try.isAgg128
  z46 := Try.sizeOf128
  v46 := Try.zeroValue128
  t50 := Try.underlying76
  a50 := Try.isAgg76
  z50 := Try.sizeOf76
  v50 := Try.zeroValue76
  t53 := Try.underlying134
  a53 := Try.isAgg134
  z53 := Try.sizeOf134
  v53 := Try.zeroValue134
  t55 := Try.underlying136
  a55 := Try.isAgg136
  z55 := Try.sizeOf136
  v55 := Try.zeroValue136
  t66 := Try.underlying140
  a66 := Try.isAgg140
  z66 := Try.sizeOf140
  v66 := Try.zeroValue140
  t70 := Try.underlying144
  a70 := Try.isAgg144
  z70 := Try.sizeOf144
  v70 := Try.zeroValue144
  t76 := Try.underlying151
  a76 := Try.isAgg151
  z76 := Try.sizeOf151
  v76 := Try.zeroValue151
  t77 := Try.underlying152
  a77 := Try.isAgg152
  z77 := Try.sizeOf152
  v77 := Try.zeroValue152 }

theorem nan_any (x : Int) (w : World) : Calls Try.prog 88 #[.int .i64 x] w fun e w' => e = .returned (.bool false) ∧ w = w' := by
  go_enter Try.func88, Try.ntmps88
  go_wp2
  go_ret
  exact ⟨by simp, rfl⟩
set_option maxHeartbeats 1000000 in
theorem cmp126_any (x y : Int) (w : World) : Calls Try.prog 60 #[.int .i64 x, .int .i64 y] w fun e w' => e = .returned (.int .i64 (Lib.compareInt x y)) ∧ w = w' := by
  unfold Lib.compareInt
  by_cases h1 : x < y
  · rw [if_pos h1]
    go_enter Try.func60, Try.ntmps60
    go_wp2_with (go_at_call 88; refine (nan_any _ _).mono ?_; rintro e w2 ⟨rfl, rfl⟩)
    go_ret
    exact ⟨rfl, rfl⟩
  · rw [if_neg h1]
    by_cases h2 : y < x
    · rw [if_pos h2]
      go_enter Try.func60, Try.ntmps60
      go_wp2_with (go_at_call 88; refine (nan_any _ _).mono ?_; rintro e w2 ⟨rfl, rfl⟩)
      go_ret
      exact ⟨rfl, rfl⟩
    · rw [if_neg h2]
      go_enter Try.func60, Try.ntmps60
      go_wp2_with (go_at_call 88; refine (nan_any _ _).mono ?_; rintro e w2 ⟨rfl, rfl⟩)
      go_ret
      exact ⟨rfl, rfl⟩
theorem cmpRows_cons (a b : Int) (s t : List Int) : cmpRows (a :: s) (b :: t) = if Lib.compareInt a b = 0 then cmpRows s t else Lib.compareInt a b := by
  rw [cmpRows]
  unfold Lib.compareInt
  by_cases h1 : a < b
  · rw [if_pos h1, if_pos h1]; rfl
  · rw [if_neg h1, if_neg h1]
    by_cases h2 : b < a
    · rw [if_pos h2, if_pos h2]; rfl
    · rw [if_neg h2, if_neg h2]; rfl
theorem cmpRows_step (l t : List Int) (k : Nat) (h1 : k < l.length) (h2 : k < t.length) : cmpRows (l.drop k) (t.drop k) = if Lib.compareInt (rd l (k : Int)) (rd t (k : Int)) = 0 then cmpRows (l.drop (k + 1)) (t.drop (k + 1)) else Lib.compareInt (rd l (k : Int)) (rd t (k : Int)) := by
  have e1 : rd l (k : Int) = l[k] := by simp [Go.Proofs.YtkefmlhkejoknabW.PrintWords.rd, h1]
  have e2 : rd t (k : Int) = t[k] := by simp [Go.Proofs.YtkefmlhkejoknabW.PrintWords.rd, h2]
  rw [List.drop_eq_getElem_cons h1, List.drop_eq_getElem_cons h2, cmpRows_cons, e1, e2]
set_option maxHeartbeats 1000000 in
theorem compare98_any (A : Option Addr) (c : Nat) (l : List Int) (B : Option Addr) (d : Nat) (t : List Int) (w : World) (hl : l.length ≤ 100000) (ht : t.length ≤ 100000) (hC : Kd.C (Kd.int .i64) w A l.length l) (hD : Kd.C (Kd.int .i64) w B t.length t) :
    Calls Try.prog 27 #[.slice A l.length c, .slice B t.length d] w fun e w' => e = .returned (.int .i64 (cmpRows l t)) ∧ w = w' := by
  have HC := Lib.hid hC
  have HD := Lib.hid hD
  clear hC hD
  go_enter Try.func27, Try.ntmps27
  go_wp2
  go_loopw [11] (fun i wr => ∃ k : Nat, k ≤ l.length ∧ i = .int .i64 k ∧ w = wr ∧ k ≤ t.length ∧ Hid (cmpRows l t = cmpRows (l.drop k) (t.drop k))) (fun i _ => l.length - (intOf i).toNat)
  case atStart => exact ⟨0, Nat.zero_le _, rfl, rfl, Nat.zero_le _, Lib.hid rfl⟩
  case round =>
    obtain ⟨k, hk, rfl, rfl, hkt, HN⟩ := hrel
    by_cases hlt : k < l.length
    · obtain ⟨ad, rfl, hc0⟩ := Kd.at_int HC.out (k : Int) (by omega) (by omega)
      simp only [Int.toNat_natCast] at hc0
      by_cases hlt2 : k < t.length
      · obtain ⟨ad2, rfl, hc2⟩ := Kd.at_int HD.out (k : Int) (by omega) (by omega)
        simp only [Int.toNat_natCast] at hc2
        have hst := cmpRows_step l t k hlt hlt2
        generalize rd l (k : Int) = x at hc0 hst
        generalize rd t (k : Int) = y at hc2 hst
        have HCALL := Lib.hid (cmp126_any x y w)
        rw [← HN.out] at hst
        generalize Lib.compareInt x y = z at hst HCALL
        by_cases hz : z = 0
        · subst hz
          rw [if_pos rfl] at hst
          have HST := Lib.hid hst
          clear hst
          go_wp2_with (go_at_call 60; refine HCALL.out.mono ?_; rintro e w2 ⟨rfl, rfl⟩)
          exact ⟨⟨k + 1, by omega, by go_num, trivial, by omega, HST⟩, by simp [intOf]; omega⟩
        · rw [if_neg hz] at hst
          have HST := Lib.hid hst
          clear hst
          go_wp2_with (go_at_call 60; refine HCALL.out.mono ?_; rintro e w2 ⟨rfl, rfl⟩)
          exact bodyPost_ret (v := .int .i64 z) (by simp [results, Try.results27, go_sem]) rfl ⟨by rw [HST.out], rfl⟩
      · have e0 : t.drop k = [] := List.drop_eq_nil_of_le (by omega)
        have hst : cmpRows l t = 1 := by rw [HN.out, e0, List.drop_eq_getElem_cons hlt, cmpRows]
        have HST := Lib.hid hst
        clear hst e0
        have hge : (t.length : Int) ≤ (k : Int) := by omega
        go_wp2
        exact bodyPost_ret (v := .int .i64 1) (by simp [results, Try.results27, go_sem]) rfl ⟨by rw [HST.out], rfl⟩
    · obtain rfl : k = l.length := by omega
      have e0 : l.drop l.length = [] := List.drop_length
      by_cases hlt2 : l.length < t.length
      · have hst : cmpRows l t = -1 := by rw [HN.out, e0, List.drop_eq_getElem_cons hlt2, cmpRows]
        have HST := Lib.hid hst
        clear hst e0
        go_wp2
        exact bodyPost_ret (v := .int .i64 (-1)) (by simp [results, Try.results27, go_sem]) rfl ⟨by rw [HST.out], rfl⟩
      · have e1 : t.drop l.length = [] := List.drop_eq_nil_of_le (by omega)
        have hst : cmpRows l t = 0 := by rw [HN.out, e0, e1, cmpRows]
        have HST := Lib.hid hst
        clear hst e0 e1
        go_wp2
        exact bodyPost_ret (v := .int .i64 0) (by simp [results, Try.results27, go_sem]) rfl ⟨by rw [HST.out], rfl⟩


theorem sortB_mem {L : List (List Int)} {c : List Int} : c ∈ sortB L ↔ c ∈ L := (List.mergeSort_perm L _).mem_iff
theorem cmpRows_total {a b : List Int} (h1 : ¬ cmpRows a b < 0) (h2 : ¬ cmpRows b a < 0) : a = b := by
  have := cmpRows_anti a b
  exact cmpRows_eq (by omega)
theorem cmpRows_neg {a b c : List Int} (h1 : ¬ cmpRows a b < 0) (h2 : ¬ cmpRows b c < 0) : ¬ cmpRows a c < 0 := by
  intro h
  have e1 := cmpRows_anti a b
  have e2 := cmpRows_anti b c
  by_cases z1 : cmpRows a b = 0
  · obtain rfl := cmpRows_eq z1; exact h2 h
  · by_cases z2 : cmpRows b c = 0
    · obtain rfl := cmpRows_eq z2; exact h1 h
    · have := cmpRows_trans (a := c) (b := b) (c := a) (by omega) (by omega)
      have := cmpRows_anti a c
      omega

theorem enters27 : ∀ args w, (callFunc 27 args).run Try.prog w = .ok (.enter 27 args) w := enters_of Try.func27 (by kernel_rfl) rfl

abbrev QOf (ps : List ACyc) := { q : ACyc // q ∈ ps }
abbrev cmpQ (ps : List ACyc) (x y : QOf ps) : Int := cmpRows x.1.2 y.1.2

set_option maxHeartbeats 1000000 in
/-- A list of rows of the call's own, sorted. -/
theorem sortB_own (B : Nat) (v : Value) (ps : List ACyc) (W : World) (h : RowsIs W B v ps) (hl : ps.length ≤ 4000000000000) (hlen : ∀ q ∈ ps, q.2.length ≤ 100000) (hn : (ps.map Prod.snd).Nodup) :
    Calls Try.prog 26 #[v, .func (.func 27) #[] #[]] W fun e w' => e = .returned (.tuple #[]) ∧ ∃ ps' : List ACyc, RowsIs w' B v ps' ∧ ps'.map Prod.snd = sortB (ps.map Prod.snd) ∧ W.grownBy w' v.ownBlock := by
  have hrows := h
  obtain ⟨⟨h0, h⟩, hq, hsep⟩ := h
  rcases h with h | ⟨g, cap, cur, rfl, hb, hc, h1, h2, h3, h4⟩
  · obtain ⟨rfl, hx⟩ := h
    have : ps = [] := List.length_eq_zero_iff.1 hx
    subst this
    refine (AnyF.slices_SortFunc_none { Aps.sortA with } none 0 (.func (.func 27) #[] #[]) W).mono ?_
    rintro e w' ⟨rfl, rfl⟩
    exact ⟨rfl, [], RowsIs.nil _ _, by simp [sortB], grown_of_below (Below.refl _ _) _⟩
  · by_cases he : ps = []
    · subst he
      refine (AnyF.slices_SortFunc_none { Aps.sortA with } (some ⟨g, 0, none⟩) cap (.func (.func 27) #[] #[]) W).mono ?_
      rintro e w' ⟨rfl, rfl⟩
      exact ⟨rfl, [], hrows, by simp [sortB], grown_of_below (Below.refl _ _) _⟩
    obtain ⟨q0, hq0⟩ := List.exists_mem_of_ne_nil ps he
    haveI : Inhabited (QOf ps) := ⟨⟨q0, hq0⟩⟩
    have hinj : ∀ x y : QOf ps, x.1.2 = y.1.2 → x = y := by
      have hp : ps.Pairwise fun a b => a.2 ≠ b.2 := by
        have := List.nodup_iff_pairwise_ne.1 hn
        rwa [List.pairwise_map] at this
      rintro ⟨x, hx⟩ ⟨y, hy⟩ e
      obtain ⟨i, hi, rfl⟩ := List.mem_iff_getElem.1 hx
      obtain ⟨j, hj, rfl⟩ := List.mem_iff_getElem.1 hy
      rw [List.pairwise_iff_getElem] at hp
      rcases Nat.lt_trichotomy i j with h5 | h5 | h5
      · exact absurd e (hp i j hi hj h5)
      · subst h5; rfl
      · exact absurd e.symm (hp j i hj hi h5)
    have hO : SWO (ltOf (cmpQ ps)) :=
      ⟨fun x => by simp [ltOf, cmpRows_self], fun x y z a b => by simp only [ltOf, decide_eq_true_eq] at *; exact cmpRows_trans a b, fun x y z a b => by simp only [ltOf, decide_eq_false_iff_not] at *; exact cmpRows_neg a b⟩
    have hT : ∀ x y : QOf ps, ltOf (cmpQ ps) x y = false → ltOf (cmpQ ps) y x = false → x = y := by
      intro x y a b
      simp only [ltOf, decide_eq_false_iff_not] at a b
      exact hinj x y (cmpRows_total a b)
    have hal : ps.attach.length = ps.length := List.length_attach
    have ham : ps.attach.map (fun q => q.1.1) = ps.map Prod.fst := by
      rw [show (fun q : QOf ps => q.1.1) = Prod.fst ∘ Subtype.val from rfl, ← List.map_map, List.attach_map_subtype_val]
    have hH : Holds (fun q : QOf ps => q.1.1) W g 0 ps.attach.toArray := holds_of_blockE hc (by rw [hal, ham, ← h4, Nat.mul_one])
    have hone : OneCell (fun q : QOf ps => q.1.1) := by
      intro x
      obtain ⟨A, c, e, _⟩ := (hq _ x.2).reads
      show x.1.1.oneCell' = true
      rw [e]
      rfl
    have hrk : ∀ {w' : World} (x : QOf ps), W.grownBy w' (some g) → RowIs w' B x.1.1 x.1.2 := by
      intro w' x hg
      exact (hq _ x.2).kept hg ((hq _ x.2).apart hrows)
    have hcmp : CmpLays1 Try.prog 27 #[] (fun q : QOf ps => q.1.1) (cmpQ ps) g 0 ps.attach.toArray.size W := by
      intro k os dk hs x y
      have hg : W.grownBy (sortWorld (fun q : QOf ps => q.1.1) W g 0 k dk os) (some g) := grownBy_sortedE dk
      obtain ⟨A1, c1, e1, _, d1⟩ := (hrk x hg).reads
      obtain ⟨A2, c2, e2, _, d2⟩ := (hrk y hg).reads
      have := compare98_any A1 c1 x.1.2 A2 c2 y.1.2 _ (hlen _ x.2) (hlen _ y.2) d1 d2
      rw [← e1, ← e2] at this
      refine this.mono ?_
      rintro e w' ⟨rfl, rfl⟩
      exact ⟨rfl, 0, #[], by rw [grow_empty]; rfl⟩
    have hmain := Any.slices_SortFunc_total Aps.sortA (fun q : QOf ps => q.1.1) hone (cmpQ ps) hO 27 #[] g 0 cap ps.attach.toArray W enters27 hcmp hH (Array.getElem?_eq_some_iff.1 hc).1 (by simp; omega) hT
    have hsz : ps.attach.toArray.size = ps.length := by simp
    rw [hsz] at hmain
    refine hmain.mono ?_
    rintro e w' ⟨rfl, n, os, rfl⟩
    generalize hts : (ps.attach.toArray.toList.mergeSort fun x y => !(ltOf (cmpQ ps) y x)) = ts
    have hperm : ts.Perm ps.attach := by
      rw [← hts]
      exact List.mergeSort_perm ..
    have hgr : W.grownBy (sortWorld (fun q : QOf ps => q.1.1) W g 0 n ts.toArray os) (some g) := grownBy_sortedE ts.toArray
    have htl : ts.length = ps.length := by rw [hperm.length_eq, hal]
    have hperm2 : (ts.map Subtype.val).Perm ps := by
      have := hperm.map Subtype.val
      rwa [List.attach_map_subtype_val] at this
    refine ⟨rfl, ts.map Subtype.val, ⟨?_, ?_, (hperm2.pairwise_iff (fun h => h.symm)).2 hsep⟩, ?_, hgr⟩
    · have := ownsRow_sortedE (enc := fun q : QOf ps => q.1.1) (w := W) (n := n) (os := os) (ss := ps.attach) (ts := ts) hperm.length_eq hb hc (by rw [hal]; exact h1) h2 h3
      rw [hal] at this
      rw [List.length_map, htl, List.map_map]
      exact this
    · intro q hq1
      obtain ⟨x, _, rfl⟩ := List.mem_map.1 hq1
      exact hrk x hgr
    · rw [← hts, List.map_map]
      unfold sortB
      have e : ps.map Prod.snd = ps.attach.map (fun q : QOf ps => q.1.2) := by
        rw [show (fun q : QOf ps => q.1.2) = Prod.snd ∘ Subtype.val from rfl, ← List.map_map, List.attach_map_subtype_val]
      rw [e]
      exact List.map_mergeSort (fun a _ b _ => rfl)
end Go.Proofs.Ytkefmlhkejoknab.L
