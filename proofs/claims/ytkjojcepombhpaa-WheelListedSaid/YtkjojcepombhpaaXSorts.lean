/- slices.SortFunc with slices.Compare on rows of the call's own: in the order of their first numbers. -/
import Derived.Shelf.SlSortCmp.NoneTotal
import Derived.Ground.SlsfProg
import Derived.Sort.OwnSortedInts
import Derived.Test.YtkjojcepombhpaaXCycles
namespace Go.Proofs.Ytkjojcepombhpaa.L
open Go.RowKit Go.Shelf Go.Lib Go.Sort Go.Proofs.YtkjojcepombhpaaW.PrintWords Go.Proofs.YtkjojcepombhpaaW.PrintLast Go.Proofs.YtkjojcepombhpaaW.PrintMore
set_option linter.unusedVariables false
set_option linter.unusedSimpArgs false

section
variable {α : Type} [Inhabited α] {enc : α → Value}
theorem holds_of_blockE {w : World} {g : Nat} {cur : Array Value} {e : TypeId} {ss : List α} (hb : w.heap[g]? = some (.cells cur e (0, 0))) (ht : cur.toList.take ss.length = ss.map enc) : Holds enc w g 0 ss.toArray := by
  intro j hj
  have hj' : j < ss.length := by simpa using hj
  refine ⟨?_, by simp [World.frozen?, hb]⟩
  have h1 : (cur.toList.take ss.length)[j]? = (ss.map enc)[j]? := by rw [ht]
  rw [List.getElem?_take_of_lt hj'] at h1
  simp only [World.cell?, hb, Nat.zero_add]
  simp only [Option.isSome_none, Bool.false_eq_true, if_false]
  rw [← Array.getElem?_toList, h1]
  simp [hj']
theorem heap_sortedE {w : World} {g n : Nat} {os : Array Obj} {cur : Array Value} {e : TypeId} {fr : Nat × Nat} (d : Array α) (hb : w.heap[g]? = some (.cells cur e fr)) :
    (grow (putRow enc (Sort.ahead w n) g 0 d) os).heap[g]? = some (.cells (putCells enc 0 d cur) e fr) := by
  have hg : g < w.heap.size := (Array.getElem?_eq_some_iff.1 hb).1
  rw [heap_grow_old _ _ (by simpa using hg)]
  simp [putRow, mapBlock, Sort.ahead, Array.getElem?_modify, hb, onCells]
theorem grownBy_sortedE {w : World} {g n : Nat} {os : Array Obj} (d : Array α) : w.grownBy (grow (putRow enc (Sort.ahead w n) g 0 d) os) (some g) := by
  refine ⟨rfl, rfl, rfl, by simp, fun k hk hne => ?_⟩
  rw [heap_grow_old _ _ (by simpa using hk)]
  have : g ≠ k := fun e => hne (by rw [e])
  simp [putRow, mapBlock, Sort.ahead, Array.getElem?_modify, this]
theorem take_putCellsE (cur : Array Value) (ts : List α) (h : ts.length ≤ cur.size) : (putCells enc 0 ts.toArray cur).toList.take ts.length = ts.map enc := by
  apply List.ext_getElem?
  intro j
  by_cases hj : j < ts.length
  · rw [List.getElem?_take_of_lt hj, Array.getElem?_toList]
    simp [putCells, hj, show j < cur.size by omega]
  · rw [List.getElem?_take_eq_none (by omega), List.getElem?_eq_none (by simp; omega)]
theorem ownsRow_sortedE {w : World} {base g cap n : Nat} {e : TypeId} {os : Array Obj} {cur : Array Value} {ss ts : List α} (hl : ts.length = ss.length) (hbase : base ≤ g) (hb : w.heap[g]? = some (.cells cur e (0, 0)))
    (h1 : ss.length ≤ cap) (h2 : cap ≤ maxLen) (h3 : cur.size = cap * 1) :
    (grow (putRow enc (Sort.ahead w n) g 0 ts.toArray) os).ownsRow base e 1 (.slice (some ⟨g, 0, none⟩) ss.length cap) ss.length (ts.map enc) :=
  ⟨by simp [hl], .inr ⟨g, cap, _, rfl, hbase, heap_sortedE _ hb, h1, h2, by simp [putCells, h3], by rw [Nat.mul_one, ← hl]; exact take_putCellsE cur ts (by omega)⟩⟩
end

def Cys.sortA_ren : Go.Shelf.Ren := ⟨fun | 6 => 80 | 15 => 88 | 14 => 91 | 28 => 105 | 29 => 106 | 20 => 107 | 21 => 108 | 22 => 109 | 23 => 110 | 24 => 111 | 25 => 112 | 26 => 113 | 27 => 114 | 46 => 122 | 47 => 118 | 48 => 119 | 49 => 123 | 50 => 124 | 57 => 126 | n => n, fun | 22 => 66 | 24 => 22 | 25 => 107 | 3 => 3 | 39 => 101 | 0 => 0 | 53 => 126 | 55 => 128 | 4 => 4 | 46 => 119 | 45 => 118 | 50 => 109 | 5 => 5 | 9 => 9 | 66 => 134 | 70 => 138 | 76 => 142 | 77 => 143 | n => n, fun | n => n⟩
theorem Cys.sortA : Go.Proofs.SlLaysF.n6 Try.prog Cys.sortA_ren := {
  mixed := by kernel_rfl
  f6 := ⟨Try.f80.name, by decide, Try.func80.trans (congrArg some (by kernel_rfl))⟩
  f14 := ⟨Try.f91.name, by decide, Try.func91.trans (congrArg some (by kernel_rfl))⟩
  f15 := Try.func88.trans (congrArg some (by kernel_rfl))
  f20 := ⟨Try.f107.name, by decide, Try.func107.trans (congrArg some (by kernel_rfl))⟩
  f21 := ⟨Try.f108.name, by decide, Try.func108.trans (congrArg some (by kernel_rfl))⟩
  f22 := ⟨Try.f109.name, by decide, Try.func109.trans (congrArg some (by kernel_rfl))⟩
  f23 := ⟨Try.f110.name, by decide, Try.func110.trans (congrArg some (by kernel_rfl))⟩
  f24 := ⟨Try.f111.name, by decide, Try.func111.trans (congrArg some (by kernel_rfl))⟩
  f25 := ⟨Try.f112.name, by decide, Try.func112.trans (congrArg some (by kernel_rfl))⟩
  f26 := ⟨Try.f113.name, by decide, Try.func113.trans (congrArg some (by kernel_rfl))⟩
  f27 := ⟨Try.f114.name, by decide, Try.func114.trans (congrArg some (by kernel_rfl))⟩
  f28 := Try.func105.trans (congrArg some (by kernel_rfl))
  f29 := Try.func106.trans (congrArg some (by kernel_rfl))
  f46 := ⟨Try.f122.name, by decide, Try.func122.trans (congrArg some (by kernel_rfl))⟩
  f47 := Try.func118.trans (congrArg some (by kernel_rfl))
  f48 := Try.func119.trans (congrArg some (by kernel_rfl))
  f49 := ⟨Try.f123.name, by decide, Try.func123.trans (congrArg some (by kernel_rfl))⟩
  f50 := ⟨Try.f124.name, by decide, Try.func124.trans (congrArg some (by kernel_rfl))⟩
  f57 := ⟨Try.f126.name, by decide, Try.func126.trans (congrArg some (by kernel_rfl))⟩
  t0 := Try.underlying0
  a0 := Try.isAgg0
  z0 := Try.sizeOf0
  v0 := Try.zeroValue0
  t3 := Try.underlying3
  a3 := Try.isAgg3
  z3 := Try.sizeOf3
  v3 := Try.zeroValue3
  t4 := Try.underlying4
  a4 := Try.isAgg4
  z4 := Try.sizeOf4
  v4 := Try.zeroValue4
  t5 := Try.underlying5
  a5 := Try.isAgg5
  z5 := Try.sizeOf5
  v5 := Try.zeroValue5
  t9 := Try.underlying9
  a9 := Try.isAgg9
  z9 := Try.sizeOf9
  v9 := Try.zeroValue9
  t22 := Try.underlying66
  a22 := Try.isAgg66
  z22 := Try.sizeOf66
  v22 := Try.zeroValue66
  a24 := Try.isAgg22
  z24 := Try.sizeOf22
  t25 := Try.underlying107
  a25 := Try.isAgg107
  z25 := Try.sizeOf107
  v25 := Try.zeroValue107
  t39 := Try.underlying101
  a39 := Try.isAgg101
  z39 := Try.sizeOf101
  v39 := Try.zeroValue101
  t45 := Try.underlying118
  a45 := Try.isAgg118
  z45 := Try.sizeOf118
  v45 := Try.zeroValue118
  t46 := Try.underlying119
  a46 := Try.isAgg119
  z46 := Try.sizeOf119
  v46 := Try.zeroValue119
  t50 := Try.underlying109
  a50 := Try.isAgg109
  z50 := Try.sizeOf109
  v50 := Try.zeroValue109
  t53 := Try.underlying126
  a53 := Try.isAgg126
  z53 := Try.sizeOf126
  v53 := Try.zeroValue126
  t55 := Try.underlying128
  a55 := Try.isAgg128
  z55 := Try.sizeOf128
  v55 := Try.zeroValue128
  t66 := Try.underlying134
  a66 := Try.isAgg134
  z66 := Try.sizeOf134
  v66 := Try.zeroValue134
  t70 := Try.underlying138
  a70 := Try.isAgg138
  z70 := Try.sizeOf138
  v70 := Try.zeroValue138
  t76 := Try.underlying142
  a76 := Try.isAgg142
  z76 := Try.sizeOf142
  v76 := Try.zeroValue142
  t77 := Try.underlying143
  a77 := Try.isAgg143
  z77 := Try.sizeOf143
  v77 := Try.zeroValue143 }

theorem cmp_sign (a b : Int) : (Lib.compareInt a b = 0 ↔ a = b) ∧ (Lib.compareInt a b < 0 ↔ a < b) := by
  unfold Lib.compareInt
  by_cases h1 : a < b
  · rw [if_pos h1]; constructor <;> constructor <;> omega
  · rw [if_neg h1]
    by_cases h2 : b < a
    · rw [if_pos h2]; constructor <;> constructor <;> omega
    · rw [if_neg h2]; constructor <;> constructor <;> omega
theorem cmpRows_self : ∀ l : List Int, cmpRows l l = 0
  | [] => rfl
  | a :: s => by rw [cmpRows, if_pos ((cmp_sign a a).1.2 rfl), cmpRows_self s]
theorem cmpRows_hd {a b : List Int} (ha : 0 < a.length) (hb : 0 < b.length) (h : hd a = hd b → a = b) : cmpRows a b < 0 ↔ hd a < hd b := by
  cases a with
  | nil => simp at ha
  | cons x s =>
    cases b with
    | nil => simp at hb
    | cons y t =>
      have e1 : hd (x :: s) = x := hd_cons x s
      have e2 : hd (y :: t) = y := hd_cons y t
      rw [e1, e2] at h ⊢
      by_cases e : x = y
      · rw [h e, cmpRows_self]
        have := h e
        injection this with h3 h4
        subst h3
        omega
      · rw [cmpRows, if_neg (fun h2 => e ((cmp_sign x y).1.1 h2))]
        exact (cmp_sign x y).2
theorem enters81 : ∀ args w, (callFunc 81 args).run Try.prog w = .ok (.enter 81 args) w := enters_of Try.func81 (by kernel_rfl) rfl

set_option maxHeartbeats 1000000 in
/-- A list of rows of the call's own, sorted. -/
theorem sortRows_own (B : Nat) (v : Value) (ps : List (Value × List Int)) (W : World) (h : RowsIs W B v ps) (hl : ps.length < 100000) (hlen : ∀ q ∈ ps, 0 < q.2.length ∧ q.2.length ≤ 100000) (hn : ((ps.map Prod.snd).map hd).Nodup) :
    Calls Try.prog 80 #[v, .func (.func 81) #[] #[]] W fun e w' => e = .returned (.tuple #[]) ∧ ∃ ps' : List (Value × List Int), RowsIs w' B v ps' ∧ ps'.map Prod.snd = sortRows (ps.map Prod.snd) ∧ W.grownBy w' v.ownBlock := by
  have hrows := h
  obtain ⟨⟨h0, h⟩, hq, hsep⟩ := h
  rcases h with h | ⟨g, cap, cur, rfl, hb, hc, h1, h2, h3, h4⟩
  · obtain ⟨rfl, hx⟩ := h
    have : ps = [] := List.length_eq_zero_iff.1 hx
    subst this
    refine (AnyF.slices_SortFunc_none { Cys.sortA with } none 0 (.func (.func 81) #[] #[]) W).mono ?_
    rintro e w' ⟨rfl, rfl⟩
    exact ⟨rfl, [], RowsIs.nil _ _, by simp [sortRows], grown_of_below (Below.refl _ _) _⟩
  · by_cases he : ps = []
    · subst he
      refine (AnyF.slices_SortFunc_none { Cys.sortA with } (some ⟨g, 0, none⟩) cap (.func (.func 81) #[] #[]) W).mono ?_
      rintro e w' ⟨rfl, rfl⟩
      exact ⟨rfl, [], hrows, by simp [sortRows], grown_of_below (Below.refl _ _) _⟩
    obtain ⟨q0, hq0⟩ := List.exists_mem_of_ne_nil ps he
    haveI : Inhabited { q : Value × List Int // q ∈ ps } := ⟨⟨q0, hq0⟩⟩
    have hinj : ∀ x y : { q : Value × List Int // q ∈ ps }, hd x.1.2 = hd y.1.2 → x = y := by
      have hp : ps.Pairwise fun a b => hd a.2 ≠ hd b.2 := by
        have := hd_nodup hn
        rwa [List.pairwise_map] at this
      rintro ⟨x, hx⟩ ⟨y, hy⟩ e
      obtain ⟨i, hi, rfl⟩ := List.mem_iff_getElem.1 hx
      obtain ⟨j, hj, rfl⟩ := List.mem_iff_getElem.1 hy
      rw [List.pairwise_iff_getElem] at hp
      rcases Nat.lt_trichotomy i j with h5 | h5 | h5
      · exact absurd e (hp i j hi hj h5)
      · subst h5; rfl
      · exact absurd e.symm (hp j i hj hi h5)
    have hlt : ∀ x y : { q : Value × List Int // q ∈ ps }, ltOf (fun x y : { q : Value × List Int // q ∈ ps } => cmpRows x.1.2 y.1.2) x y = decide (hd x.1.2 < hd y.1.2) := by
      intro x y
      unfold ltOf
      exact decide_eq_decide.2 (cmpRows_hd (hlen _ x.2).1 (hlen _ y.2).1 (fun e => by rw [hinj x y e]))
    have hO : SWO (ltOf (fun x y : { q : Value × List Int // q ∈ ps } => cmpRows x.1.2 y.1.2)) :=
      ⟨fun x => by rw [hlt]; simp, fun x y z a b => by rw [hlt] at *; simp at *; omega, fun x y z a b => by rw [hlt] at *; simp at *; omega⟩
    have hT : ∀ x y : { q : Value × List Int // q ∈ ps }, ltOf (fun x y : { q : Value × List Int // q ∈ ps } => cmpRows x.1.2 y.1.2) x y = false → ltOf (fun x y : { q : Value × List Int // q ∈ ps } => cmpRows x.1.2 y.1.2) y x = false → x = y := by
      intro x y a b
      rw [hlt] at a b
      simp at a b
      exact hinj x y (by omega)
    have hal : ps.attach.length = ps.length := List.length_attach
    have ham : ps.attach.map (fun q => q.1.1) = ps.map Prod.fst := by
      rw [show (fun q : { q : Value × List Int // q ∈ ps } => q.1.1) = Prod.fst ∘ Subtype.val from rfl, ← List.map_map, List.attach_map_subtype_val]
    have hH : Holds (fun q : { q : Value × List Int // q ∈ ps } => q.1.1) W g 0 ps.attach.toArray := holds_of_blockE hc (by rw [hal, ham, ← h4, Nat.mul_one])
    have hone : OneCell (fun q : { q : Value × List Int // q ∈ ps } => q.1.1) := by
      intro x
      obtain ⟨A, c, e, _⟩ := (hq _ x.2).reads
      show x.1.1.oneCell' = true
      rw [e]
      rfl
    have hrk : ∀ {w' : World} (x : { q : Value × List Int // q ∈ ps }), W.grownBy w' (some g) → RowIs w' B x.1.1 x.1.2 := by
      intro w' x hg
      exact (hq _ x.2).kept hg ((hq _ x.2).apart hrows)
    have hcmp : CmpLays1 Try.prog 81 #[] (fun q : { q : Value × List Int // q ∈ ps } => q.1.1) (fun x y : { q : Value × List Int // q ∈ ps } => cmpRows x.1.2 y.1.2) g 0 ps.attach.toArray.size W := by
      intro k os dk hs x y
      have hg : W.grownBy (sortWorld (fun q : { q : Value × List Int // q ∈ ps } => q.1.1) W g 0 k dk os) (some g) := grownBy_sortedE dk
      obtain ⟨A1, c1, e1, _, d1⟩ := (hrk x hg).reads
      obtain ⟨A2, c2, e2, _, d2⟩ := (hrk y hg).reads
      have := compare81_any A1 c1 x.1.2 A2 c2 y.1.2 _ (hlen _ x.2).2 (hlen _ y.2).2 d1 d2
      rw [← e1, ← e2] at this
      refine this.mono ?_
      rintro e w' ⟨rfl, rfl⟩
      exact ⟨rfl, 0, #[], by rw [grow_empty]; rfl⟩
    have hmain := Any.slices_SortFunc_total Cys.sortA (fun q : { q : Value × List Int // q ∈ ps } => q.1.1) hone (fun x y : { q : Value × List Int // q ∈ ps } => cmpRows x.1.2 y.1.2) hO 81 #[] g 0 cap ps.attach.toArray W enters81 hcmp hH (Array.getElem?_eq_some_iff.1 hc).1 (by simp; omega) hT
    have hsz : ps.attach.toArray.size = ps.length := by simp
    rw [hsz] at hmain
    refine hmain.mono ?_
    rintro e w' ⟨rfl, n, os, rfl⟩
    generalize hts : (ps.attach.toArray.toList.mergeSort fun x y => !(ltOf (fun x y : { q : Value × List Int // q ∈ ps } => cmpRows x.1.2 y.1.2) y x)) = ts
    have hperm : ts.Perm ps.attach := by
      rw [← hts]
      exact List.mergeSort_perm ..
    have hgr : W.grownBy (sortWorld (fun q : { q : Value × List Int // q ∈ ps } => q.1.1) W g 0 n ts.toArray os) (some g) := grownBy_sortedE ts.toArray
    have htl : ts.length = ps.length := by rw [hperm.length_eq, hal]
    have hperm2 : (ts.map Subtype.val).Perm ps := by
      have := hperm.map Subtype.val
      rwa [List.attach_map_subtype_val] at this
    refine ⟨rfl, ts.map Subtype.val, ⟨?_, ?_, (hperm2.pairwise_iff (fun h => h.symm)).2 hsep⟩, ?_, hgr⟩
    · have := ownsRow_sortedE (enc := fun q : { q : Value × List Int // q ∈ ps } => q.1.1) (w := W) (n := n) (os := os) (ss := ps.attach) (ts := ts) hperm.length_eq hb hc (by rw [hal]; exact h1) h2 h3
      rw [hal] at this
      rw [List.length_map, htl, List.map_map]
      exact this
    · intro q hq1
      obtain ⟨x, _, rfl⟩ := List.mem_map.1 hq1
      exact hrk x hgr
    · symm
      refine sortRows_of ?_ ?_
      · exact hperm2.map _
      · have hs := List.pairwise_mergeSort (le := fun x y : { q : Value × List Int // q ∈ ps } => !(ltOf (fun x y : { q : Value × List Int // q ∈ ps } => cmpRows x.1.2 y.1.2) y x)) (fun a b c => by rw [hlt, hlt, hlt]; simp; omega) (fun a b => by rw [hlt, hlt]; simp; omega) ps.attach.toArray.toList
        rw [hts] at hs
        have hnd : ts.Nodup := by
          refine hperm.nodup_iff.2 ?_
          have hp2 : ps.Nodup := by
            have h5 := hd_nodup hn
            rw [List.pairwise_map] at h5
            rw [List.nodup_iff_pairwise_ne]
            exact h5.imp (fun h e => h (by rw [e]))
          rw [List.nodup_iff_pairwise_ne] at hp2 ⊢
          have h9 := hp2
          rw [← List.attach_map_subtype_val ps, List.pairwise_map] at h9
          exact h9.imp (fun h e => h (by rw [e]))
        rw [List.map_map, List.pairwise_map]
        refine (hs.and hnd).imp ?_
        rintro a b ⟨h8, h9⟩
        rw [hlt] at h8
        simp at h8
        have : hd a.1.2 ≠ hd b.1.2 := fun e => h9 (hinj _ _ e)
        show hd a.1.2 < hd b.1.2
        omega
end Go.Proofs.Ytkjojcepombhpaa.L
