/- tread.isWord, isSet, avoids at the set aa, ab, bb of two letters. -/
import Derived.Test.YtkefmlhkejoknaaXGaps
import Derived.Test.YtkefmlhkejoknaaL40
import Derived.Shelf.Lay
import Derived.Shelf.Strings.Search3
import Derived.Shelf.SlicesE.IndexFunc
import Derived.Shelf.GgClosure.StringsRunes
import Derived.Ground.NamesProg
import Derived.Ground.GgwProg
import Derived.Ground.SlgfProg
import Derived.Laws.Cover1
namespace Go.Proofs.Ytkefmlhkejoknaa.L
set_option linter.unusedVariables false
set_option linter.unusedSimpArgs false
open Go.RowKit Go.Shelf Go.Lib Go.Proofs.YtkefmlhkejoknaaW.PrintWords Go.Proofs.YtkefmlhkejoknaaW.PrintLast Go.Proofs.YtkefmlhkejoknaaW.PrintMore
attribute [local go_sem] Oper.semAt_some

shelf_lay Lays.n144 Nm 144 at Try as Avd.lContains
shelf_lay LaysGw.n17 Ggw 17 at Try as Avd.lHas
shelf_lay_g SlLaysH.n8 Slgf 8 at Try 177 as Avd.lSome

/-- The cell of the library's own variable holds a number. -/
def GlobM (w : World) : Prop := ∃ m, w.cell? ⟨0, 0, none⟩ = some (.int .i64 m)
theorem GlobM.below {w W : World} (h : GlobM w) (hb : Below w.heap.size w W) : GlobM W := by
  obtain ⟨m, hm⟩ := h
  exact ⟨m, (hb.cell (p := ⟨0, 0, none⟩) (block_lt_of_cell hm)).trans hm⟩
theorem contains_any (s sub : ByteArray) (w : World) (hs : s.size < 4294967281) (hm : GlobM w) :
    Calls Try.prog 179 #[.string s, .string sub] w fun e w' => e = .returned (.bool (Lib.contains s.data.toList sub.data.toList)) ∧ w' = w := by
  obtain ⟨m, hm⟩ := hm
  exact Any.strings_Contains Avd.lContains s sub m w hs hm

/-- Is the rune no letter? -/
def noLetter (r : Nat) : Bool := decide (r < 97) || decide (99 ≤ r)
set_option maxHeartbeats 1000000 in
theorem noLetter_at (w : World) (B : Nat) (hc : w.cell? ⟨B, 0, none⟩ = some (.int .i64 2)) : PredAtRunes Try.prog 176 #[.pointer (some ⟨B, 0, none⟩)] noLetter w := fun W r hr hb => by
  have hB : B < w.heap.size := block_lt_of_cell hc
  have hc' : W.cell? ⟨B, 0, none⟩ = some (.int .i64 2) := (hb.cell (p := ⟨B, 0, none⟩) hB).trans hc
  unfold FnGives
  have hr2 : (r : Int) ≤ 1114111 := by omega
  clear hc hb
  by_cases h1 : r < 97
  · have h1' : (r : Int) < 97 := by omega
    go_enter Try.func176, Try.ntmps176
    go_wp2
    go_ret
    exact ⟨by simp [noLetter, h1], 0, rfl⟩
  · have h1' : ¬ (r : Int) < 97 := by omega
    have hw : IntKind.i32.wrap ((r : Int) - 97) = (r : Int) - 97 := by rw [IntKind.wrap_i32]; omega
    by_cases h2 : 99 ≤ r
    · have h2' : (2 : Int) ≤ (r : Int) - 97 := by omega
      go_enter Try.func176, Try.ntmps176
      go_wp2
      go_ret
      exact ⟨by simp [noLetter, h1, h2], 0, rfl⟩
    · have h2' : ¬ (2 : Int) ≤ (r : Int) - 97 := by omega
      go_enter Try.func176, Try.ntmps176
      go_wp2
      go_ret
      exact ⟨by simp [noLetter, h1, h2], 0, rfl⟩
set_option maxHeartbeats 1000000 in
theorem isWord_any (s : ByteArray) (q : Bool) (w : World) (hq : decide (0 ≤ Lib.idxFunc noLetter true s) = q) :
    Calls Try.prog 155 #[.int .i64 2, .string s] w fun e w' => e = .returned (.bool (!q)) ∧ Below w.heap.size w w' := by
  have hp := noLetter_at (w.alloc (.cells #[.int .i64 2] 3)) w.heap.size ((Whole.new w 3 #[.int .i64 2]).cell 0)
  have hcall := Any.strings_ContainsFunc_runes Avd.lHas 176 #[.pointer (some ⟨w.heap.size, 0, none⟩)] (enters_of Try.func176 (by kernel_rfl) rfl) noLetter s (w.alloc (.cells #[.int .i64 2] 3)) hp
  rw [hq] at hcall
  change Calls Try.prog 175 _ _ _ at hcall
  have HC := Lib.hid hcall
  clear hcall hp hq
  go_enter Try.func155, Try.ntmps155
  go_wp2_with (go_at_call 175; refine HC.out.mono ?_; rintro e w1 ⟨rfl, hb⟩)
  go_ret
  exact ⟨rfl, (below_alloc (Below.refl _ _) _).trans (hb.mono (by simp))⟩

abbrev sAA : ByteArray := ⟨#[97, 97]⟩
abbrev sAB : ByteArray := ⟨#[97, 98]⟩
abbrev sBB : ByteArray := ⟨#[98, 98]⟩
/-- The set lies at ad. -/
structure SetAt (ad : Addr) (w : World) : Prop where
  c0 : w.cell? ad = some (.string sAA)
  c1 : w.cell? ⟨ad.block, ad.off + 1, none⟩ = some (.string sAB)
  c2 : w.cell? ⟨ad.block, ad.off + 2, none⟩ = some (.string sBB)
theorem SetAt.below {ad : Addr} {w W : World} (h : SetAt ad w) (hb : Below w.heap.size w W) : SetAt ad W :=
  have hl := block_lt_of_cell h.c0
  ⟨(hb.cell hl).trans h.c0, (hb.cell (p := ⟨ad.block, ad.off + 1, none⟩) hl).trans h.c1, (hb.cell (p := ⟨ad.block, ad.off + 2, none⟩) hl).trans h.c2⟩
theorem wordAA : decide (0 ≤ Lib.idxFunc noLetter true sAA) = false := by kernel_rfl
theorem wordAB : decide (0 ≤ Lib.idxFunc noLetter true sAB) = false := by kernel_rfl
theorem wordBB : decide (0 ≤ Lib.idxFunc noLetter true sBB) = false := by kernel_rfl
set_option maxHeartbeats 2000000 in
theorem isSet_any (ad : Addr) (c : Nat) (w : World) (hS : SetAt ad w) :
    Calls Try.prog 135 #[.int .i64 2, .slice (some ad) 3 c] w fun e w' => e = .returned (.bool true) ∧ Below w.heap.size w w' := by
  have HS := Lib.hid hS
  clear hS
  go_enter Try.func135, Try.ntmps135
  go_wp2_with (go_at_call 154; refine (tread_within.calls 2 1 3 true _ (by decide)).mono ?_; rintro e w1 ⟨rfl, hd⟩; have hb : Below w.heap.size w w1 := (by obtain ⟨m1, hd⟩ := hd; subst hd; exact pw_below_drewN (Below.refl _ _) _); have HB1 := Lib.hid hb; clear hd hb)
  go_loopw [17] (fun iv wr => ∃ k : Nat, k ≤ 3 ∧ iv = .int .i64 k ∧ Hid (Below w.heap.size w wr)) (fun iv _ => 3 - (intOf iv).toNat)
  case atStart => exact ⟨0, by omega, rfl, HB1⟩
  case round =>
    obtain ⟨k, hk, rfl, HB⟩ := hrel
    have hS := HS.out.below HB.out
    obtain ⟨c0, c1, c2⟩ := hS
    obtain rfl | rfl | rfl | rfl : k = 0 ∨ k = 1 ∨ k = 2 ∨ k = 3 := by omega
    · go_wp2_with (first
        | (go_at_call 154; refine (tread_within.calls 2 1 5 true _ (by decide)).mono ?_; rintro e w2 ⟨rfl, hd⟩; have HB2 := Lib.hid (show Below w.heap.size w w2 from (by obtain ⟨m1, hd⟩ := hd; subst hd; exact pw_below_drewN HB.out _)); clear hd)
        | (go_at_call 155; refine (isWord_any sAA false _ wordAA).mono ?_; rintro e w3 ⟨rfl, hb⟩; have HB3 := Lib.hid (HB2.out.trans (hb.mono HB2.out.size)); clear hb))
      exact ⟨⟨1, by omega, rfl, HB3⟩, by simp [intOf]⟩
    · go_wp2_with (first
        | (go_at_call 154; refine (tread_within.calls 2 1 5 true _ (by decide)).mono ?_; rintro e w2 ⟨rfl, hd⟩; have HB2 := Lib.hid (show Below w.heap.size w w2 from (by obtain ⟨m1, hd⟩ := hd; subst hd; exact pw_below_drewN HB.out _)); clear hd)
        | (go_at_call 155; refine (isWord_any sAB false _ wordAB).mono ?_; rintro e w3 ⟨rfl, hb⟩; have HB3 := Lib.hid (HB2.out.trans (hb.mono HB2.out.size)); clear hb; obtain ⟨e0, e1, e2⟩ := HS.out.below HB3.out))
      exact ⟨⟨2, by omega, rfl, HB3⟩, by simp [intOf]⟩
    · go_wp2_with (first
        | (go_at_call 154; refine (tread_within.calls 2 1 5 true _ (by decide)).mono ?_; rintro e w2 ⟨rfl, hd⟩; have HB2 := Lib.hid (show Below w.heap.size w w2 from (by obtain ⟨m1, hd⟩ := hd; subst hd; exact pw_below_drewN HB.out _)); clear hd)
        | (go_at_call 155; refine (isWord_any sBB false _ wordBB).mono ?_; rintro e w3 ⟨rfl, hb⟩; have HB3 := Lib.hid (HB2.out.trans (hb.mono HB2.out.size)); clear hb; obtain ⟨e0, e1, e2⟩ := HS.out.below HB3.out))
      exact ⟨⟨3, by omega, rfl, HB3⟩, by simp [intOf]⟩
    · go_wp2
      go_ret
      exact ⟨rfl, HB.out⟩

/-- Does a word avoid the set? -/
def setL : List ByteArray := [sAA, sAB, sBB]
def avoidB (s : ByteArray) : Bool := !(setL.any fun p => Lib.contains s.data.toList p.data.toList)
set_option maxHeartbeats 1000000 in
theorem has_at (s : ByteArray) (w : World) (B : Nat) (hs : s.size < 4294967281) (hm : GlobM w) (hc : w.cell? ⟨B, 0, none⟩ = some (.string s)) :
    PredAt Try.prog 178 #[.pointer (some ⟨B, 0, none⟩)] Value.string (fun p => Lib.contains s.data.toList p.data.toList) w := fun W p hb => by
  have hB : B < w.heap.size := block_lt_of_cell hc
  have hc' : W.cell? ⟨B, 0, none⟩ = some (.string s) := (hb.cell (p := ⟨B, 0, none⟩) hB).trans hc
  have hm' := hm.below hb
  unfold FnGives
  have HC := Lib.hid (contains_any s p W hs hm')
  clear hc hb hm hm'
  go_enter Try.func178, Try.ntmps178
  go_wp2_with (go_at_call 179; refine HC.out.mono ?_; rintro e w1 ⟨rfl, rfl⟩)
  go_ret
  exact ⟨rfl, 0, rfl⟩
set_option maxHeartbeats 1000000 in
theorem avoids_any (s : ByteArray) (q : Bool) (ad : Addr) (c : Nat) (w : World) (hp : ad.spot = none) (hs : s.size < 4294967281) (hm : GlobM w) (hS : SetAt ad w) (hq : avoidB s = q) :
    Calls Try.prog 156 #[.slice (some ad) 3 c, .string s] w fun e w' => e = .returned (.bool q) ∧ Below w.heap.size w w' := by
  have hb := below_alloc (Below.refl w.heap.size w) (.cells #[.string s] 9)
  have hat := has_at s (w.alloc (.cells #[.string s] 9)) w.heap.size hs (hm.below hb) ((Whole.new w 9 #[.string s]).cell 0)
  have hS2 := hS.below hb
  obtain ⟨blk, off, spot⟩ := ad
  obtain rfl : spot = none := hp
  obtain ⟨c0, c1, c2⟩ := hS2
  have hcall := AnyE.slices_ContainsFunc Avd.lSome Value.string (fun p => Lib.contains s.data.toList p.data.toList) 178 #[.pointer (some ⟨w.heap.size, 0, none⟩)] (enters_of Try.func178 (by kernel_rfl) rfl) blk off 3 c setL (w.alloc (.cells #[.string s] 9)) hat (by simp [setL]) (by omega) (by
    intro j hj
    have : j < 3 := hj
    obtain rfl | rfl | rfl : j = 0 ∨ j = 1 ∨ j = 2 := by omega
    · exact c0
    · exact c1
    · exact c2)
  change Calls Try.prog 177 _ _ _ at hcall
  rw [show (setL.take 3).any (fun p => Lib.contains s.data.toList p.data.toList) = !q by rw [← hq, avoidB, Bool.not_not]; rfl] at hcall
  have HC := Lib.hid hcall
  clear hcall hat hS hq c0 c1 c2 hb
  go_enter Try.func156, Try.ntmps156
  go_wp2_with (go_at_call 177; refine HC.out.mono ?_; rintro e w1 ⟨rfl, m1, rfl⟩)
  go_ret
  exact ⟨by simp, pw_below_drewN (below_alloc (Below.refl _ _) _) _⟩
end Go.Proofs.Ytkefmlhkejoknaa.L
