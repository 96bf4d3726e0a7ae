/- tread.isWord, isSet, avoids at the set aa, ab, bb of two letters. -/
import Derived.Test.YtkefmlhkejoknaaXGaps
import Derived.Test.YtkefmlhkejoknaaL40
import Derived.Shelf.Strings.Search3
import Derived.Shelf.SlicesE.IndexFunc
import Derived.Shelf.GgClosure.StringsRunes
import Derived.Ground.NamesProg
import Derived.Ground.GgwProg
import Derived.Ground.SlgfProg
import Derived.Laws.Cover1
namespace Go.Proofs.Ytkefmlhkejoknaa.L
set_option linter.unusedVariables false
set_option linter.unusedSimpArgs false
open Go.RowKit Go.Shelf Go.Lib Go.Proofs.YtkefmlhkejoknaaW.PrintWords Go.Proofs.YtkefmlhkejoknaaW.PrintLast Go.Proofs.YtkefmlhkejoknaaW.PrintMore
attribute [local go_sem] Oper.semAt_some

def Avd.lContains_ren : Go.Shelf.Ren := ⟨fun | 144 => 179 | 143 => 187 | 219 => 190 | 217 => 191 | 225 => 192 | 224 => 193 | 267 => 194 | 266 => 195 | 314 => 196 | n => n, fun | 9 => 9 | 4 => 4 | 3 => 3 | 5 => 5 | 46 => 89 | 146 => 230 | 51 => 156 | n => n, fun | 1 => 0 | n => n⟩
theorem Avd.lContains : Go.Proofs.Lays.n144 Try.prog Avd.lContains_ren := {
  mixed := by kernel_rfl
  f143 := Try.func187.trans (congrArg some (by kernel_rfl))
  f144 := Try.func179.trans (congrArg some (by kernel_rfl))
  f217 := Try.func191.trans (congrArg some (by kernel_rfl))
  f219 := Try.func190.trans (congrArg some (by kernel_rfl))
  f224 := Try.func193.trans (congrArg some (by kernel_rfl))
  f225 := Try.func192.trans (congrArg some (by kernel_rfl))
  f266 := Try.func195.trans (congrArg some (by kernel_rfl))
  f267 := Try.func194.trans (congrArg some (by kernel_rfl))
  f314 := Try.func196.trans (congrArg some (by kernel_rfl))
  t3 := Try.underlying3
  a3 := Try.isAgg3
  z3 := Try.sizeOf3
  v3 := Try.zeroValue3
  t4 := Try.underlying4
  a4 := Try.isAgg4
  z4 := Try.sizeOf4
  v4 := Try.zeroValue4
  t5 := Try.underlying5
  a5 := Try.isAgg5
  z5 := Try.sizeOf5
  v5 := Try.zeroValue5
  t9 := Try.underlying9
  a9 := Try.isAgg9
  z9 := Try.sizeOf9
  v9 := Try.zeroValue9
  t46 := Try.underlying89
  a46 := Try.isAgg89
  z46 := Try.sizeOf89
  v46 := Try.zeroValue89
  t51 := Try.underlying156
  a51 := Try.isAgg156
  z51 := Try.sizeOf156
  v51 := Try.zeroValue156
  t146 := Try.underlying230
  a146 := Try.isAgg230
  z146 := Try.sizeOf230
  v146 := Try.zeroValue230
  g1 := by kernel_rfl }
def Avd.lHas_ren : Go.Shelf.Ren := ⟨fun | 17 => 175 | 15 => 185 | 20 => 189 | n => n, fun | 9 => 9 | 23 => 213 | 4 => 4 | 3 => 3 | 0 => 0 | 21 => 21 | n => n, fun | n => n⟩
theorem Avd.lHas : Go.Proofs.LaysGw.n17 Try.prog Avd.lHas_ren := {
  mixed := by kernel_rfl
  f15 := Try.func185.trans (congrArg some (by kernel_rfl))
  f17 := Try.func175.trans (congrArg some (by kernel_rfl))
  f20 := Try.func189.trans (congrArg some (by kernel_rfl))
  t0 := Try.underlying0
  a0 := Try.isAgg0
  z0 := Try.sizeOf0
  v0 := Try.zeroValue0
  i0 := by kernel_rfl
  t3 := Try.underlying3
  a3 := Try.isAgg3
  z3 := Try.sizeOf3
  v3 := Try.zeroValue3
  i3 := by kernel_rfl
  t4 := Try.underlying4
  a4 := Try.isAgg4
  z4 := Try.sizeOf4
  v4 := Try.zeroValue4
  i4 := by kernel_rfl
  t9 := Try.underlying9
  a9 := Try.isAgg9
  z9 := Try.sizeOf9
  v9 := Try.zeroValue9
  i9 := by kernel_rfl
  t21 := Try.underlying21
  a21 := Try.isAgg21
  z21 := Try.sizeOf21
  v21 := Try.zeroValue21
  i21 := by kernel_rfl
  t23 := Try.underlying213
  a23 := Try.isAgg213
  z23 := Try.sizeOf213
  v23 := Try.zeroValue213
  i23 := by kernel_rfl }
def Avd.lSome_ren : Go.Shelf.Ren := ⟨fun | 8 => 177 | 6 => 186 | n => n, fun | 22 => 96 | 23 => 9 | 25 => 216 | 4 => 4 | 3 => 3 | 0 => 0 | n => n, fun | n => n⟩
theorem Avd.lSome : Go.Proofs.SlLaysH.n8 Try.prog Avd.lSome_ren := {
  mixed := by kernel_rfl
  f6 := ⟨Try.f186.name, by decide, Try.func186.trans (congrArg some (by kernel_rfl))⟩
  f8 := ⟨Try.f177.name, by decide, Try.func177.trans (congrArg some (by kernel_rfl))⟩
  t0 := Try.underlying0
  a0 := Try.isAgg0
  z0 := Try.sizeOf0
  v0 := Try.zeroValue0
  t3 := Try.underlying3
  a3 := Try.isAgg3
  z3 := Try.sizeOf3
  v3 := Try.zeroValue3
  t4 := Try.underlying4
  a4 := Try.isAgg4
  z4 := Try.sizeOf4
  v4 := Try.zeroValue4
  t22 := Try.underlying96
  a22 := Try.isAgg96
  z22 := Try.sizeOf96
  v22 := Try.zeroValue96
  a23 := Try.isAgg9
  z23 := Try.sizeOf9
  t25 := Try.underlying216
  a25 := Try.isAgg216
  z25 := Try.sizeOf216
  v25 := Try.zeroValue216 }

/-- The cell of the library's own variable holds a number. -/
def GlobM (w : World) : Prop := ∃ m, w.cell? ⟨0, 0, none⟩ = some (.int .i64 m)
theorem GlobM.below {w W : World} (h : GlobM w) (hb : Below w.heap.size w W) : GlobM W := by
  obtain ⟨m, hm⟩ := h
  exact ⟨m, (hb.cell (p := ⟨0, 0, none⟩) (block_lt_of_cell hm)).trans hm⟩
theorem contains_any (s sub : ByteArray) (w : World) (hs : s.size < 4294967281) (hm : GlobM w) :
    Calls Try.prog 179 #[.string s, .string sub] w fun e w' => e = .returned (.bool (Lib.contains s.data.toList sub.data.toList)) ∧ w' = w := by
  obtain ⟨m, hm⟩ := hm
  exact Any.strings_Contains Avd.lContains s sub m w hs hm

/-- Is the rune no letter? -/
def noLetter (r : Nat) : Bool := decide (r < 97) || decide (99 ≤ r)
set_option maxHeartbeats 1000000 in
theorem noLetter_at (w : World) (B : Nat) (hc : w.cell? ⟨B, 0, none⟩ = some (.int .i64 2)) : PredAtRunes Try.prog 176 #[.pointer (some ⟨B, 0, none⟩)] noLetter w := fun W r hr hb => by
  have hB : B < w.heap.size := block_lt_of_cell hc
  have hc' : W.cell? ⟨B, 0, none⟩ = some (.int .i64 2) := (hb.cell (p := ⟨B, 0, none⟩) hB).trans hc
  unfold FnGives
  have hr2 : (r : Int) ≤ 1114111 := by omega
  clear hc hb
  by_cases h1 : r < 97
  · have h1' : (r : Int) < 97 := by omega
    go_enter Try.func176, Try.ntmps176
    go_wp2
    go_ret
    exact ⟨by simp [noLetter, h1], 0, rfl⟩
  · have h1' : ¬ (r : Int) < 97 := by omega
    have hw : IntKind.i32.wrap ((r : Int) - 97) = (r : Int) - 97 := by rw [IntKind.wrap_i32]; omega
    by_cases h2 : 99 ≤ r
    · have h2' : (2 : Int) ≤ (r : Int) - 97 := by omega
      go_enter Try.func176, Try.ntmps176
      go_wp2
      go_ret
      exact ⟨by simp [noLetter, h1, h2], 0, rfl⟩
    · have h2' : ¬ (2 : Int) ≤ (r : Int) - 97 := by omega
      go_enter Try.func176, Try.ntmps176
      go_wp2
      go_ret
      exact ⟨by simp [noLetter, h1, h2], 0, rfl⟩
set_option maxHeartbeats 1000000 in
theorem isWord_any (s : ByteArray) (q : Bool) (w : World) (hq : decide (0 ≤ Lib.idxFunc noLetter true s) = q) :
    Calls Try.prog 155 #[.int .i64 2, .string s] w fun e w' => e = .returned (.bool (!q)) ∧ Below w.heap.size w w' := by
  have hp := noLetter_at (w.alloc (.cells #[.int .i64 2] 3)) w.heap.size ((Whole.new w 3 #[.int .i64 2]).cell 0)
  have hcall := Any.strings_ContainsFunc_runes Avd.lHas 176 #[.pointer (some ⟨w.heap.size, 0, none⟩)] (enters_of Try.func176 (by kernel_rfl) rfl) noLetter s (w.alloc (.cells #[.int .i64 2] 3)) hp
  rw [hq] at hcall
  change Calls Try.prog 175 _ _ _ at hcall
  have HC := Lib.hid hcall
  clear hcall hp hq
  go_enter Try.func155, Try.ntmps155
  go_wp2_with (go_at_call 175; refine HC.out.mono ?_; rintro e w1 ⟨rfl, hb⟩)
  go_ret
  exact ⟨rfl, (below_alloc (Below.refl _ _) _).trans (hb.mono (by simp))⟩

abbrev sAA : ByteArray := ⟨#[97, 97]⟩
abbrev sAB : ByteArray := ⟨#[97, 98]⟩
abbrev sBB : ByteArray := ⟨#[98, 98]⟩
/-- The set lies at ad. -/
structure SetAt (ad : Addr) (w : World) : Prop where
  c0 : w.cell? ad = some (.string sAA)
  c1 : w.cell? ⟨ad.block, ad.off + 1, none⟩ = some (.string sAB)
  c2 : w.cell? ⟨ad.block, ad.off + 2, none⟩ = some (.string sBB)
theorem SetAt.below {ad : Addr} {w W : World} (h : SetAt ad w) (hb : Below w.heap.size w W) : SetAt ad W :=
  have hl := block_lt_of_cell h.c0
  ⟨(hb.cell hl).trans h.c0, (hb.cell (p := ⟨ad.block, ad.off + 1, none⟩) hl).trans h.c1, (hb.cell (p := ⟨ad.block, ad.off + 2, none⟩) hl).trans h.c2⟩
theorem wordAA : decide (0 ≤ Lib.idxFunc noLetter true sAA) = false := by kernel_rfl
theorem wordAB : decide (0 ≤ Lib.idxFunc noLetter true sAB) = false := by kernel_rfl
theorem wordBB : decide (0 ≤ Lib.idxFunc noLetter true sBB) = false := by kernel_rfl
set_option maxHeartbeats 2000000 in
theorem isSet_any (ad : Addr) (c : Nat) (w : World) (hS : SetAt ad w) :
    Calls Try.prog 135 #[.int .i64 2, .slice (some ad) 3 c] w fun e w' => e = .returned (.bool true) ∧ Below w.heap.size w w' := by
  have HS := Lib.hid hS
  clear hS
  go_enter Try.func135, Try.ntmps135
  go_wp2_with (go_at_call 154; refine (tread_within.calls 2 1 3 true _ (by decide)).mono ?_; rintro e w1 ⟨rfl, hd⟩; have hb : Below w.heap.size w w1 := (by obtain ⟨m1, hd⟩ := hd; subst hd; exact pw_below_drewN (Below.refl _ _) _); have HB1 := Lib.hid hb; clear hd hb)
  go_loopw [17] (fun iv wr => ∃ k : Nat, k ≤ 3 ∧ iv = .int .i64 k ∧ Hid (Below w.heap.size w wr)) (fun iv _ => 3 - (intOf iv).toNat)
  case atStart => exact ⟨0, by omega, rfl, HB1⟩
  case round =>
    obtain ⟨k, hk, rfl, HB⟩ := hrel
    have hS := HS.out.below HB.out
    obtain ⟨c0, c1, c2⟩ := hS
    obtain rfl | rfl | rfl | rfl : k = 0 ∨ k = 1 ∨ k = 2 ∨ k = 3 := by omega
    · go_wp2_with (first
        | (go_at_call 154; refine (tread_within.calls 2 1 5 true _ (by decide)).mono ?_; rintro e w2 ⟨rfl, hd⟩; have HB2 := Lib.hid (show Below w.heap.size w w2 from (by obtain ⟨m1, hd⟩ := hd; subst hd; exact pw_below_drewN HB.out _)); clear hd)
        | (go_at_call 155; refine (isWord_any sAA false _ wordAA).mono ?_; rintro e w3 ⟨rfl, hb⟩; have HB3 := Lib.hid (HB2.out.trans (hb.mono HB2.out.size)); clear hb))
      exact ⟨⟨1, by omega, rfl, HB3⟩, by simp [intOf]⟩
    · go_wp2_with (first
        | (go_at_call 154; refine (tread_within.calls 2 1 5 true _ (by decide)).mono ?_; rintro e w2 ⟨rfl, hd⟩; have HB2 := Lib.hid (show Below w.heap.size w w2 from (by obtain ⟨m1, hd⟩ := hd; subst hd; exact pw_below_drewN HB.out _)); clear hd)
        | (go_at_call 155; refine (isWord_any sAB false _ wordAB).mono ?_; rintro e w3 ⟨rfl, hb⟩; have HB3 := Lib.hid (HB2.out.trans (hb.mono HB2.out.size)); clear hb; obtain ⟨e0, e1, e2⟩ := HS.out.below HB3.out))
      exact ⟨⟨2, by omega, rfl, HB3⟩, by simp [intOf]⟩
    · go_wp2_with (first
        | (go_at_call 154; refine (tread_within.calls 2 1 5 true _ (by decide)).mono ?_; rintro e w2 ⟨rfl, hd⟩; have HB2 := Lib.hid (show Below w.heap.size w w2 from (by obtain ⟨m1, hd⟩ := hd; subst hd; exact pw_below_drewN HB.out _)); clear hd)
        | (go_at_call 155; refine (isWord_any sBB false _ wordBB).mono ?_; rintro e w3 ⟨rfl, hb⟩; have HB3 := Lib.hid (HB2.out.trans (hb.mono HB2.out.size)); clear hb; obtain ⟨e0, e1, e2⟩ := HS.out.below HB3.out))
      exact ⟨⟨3, by omega, rfl, HB3⟩, by simp [intOf]⟩
    · go_wp2
      go_ret
      exact ⟨rfl, HB.out⟩

/-- Does a word avoid the set? -/
def setL : List ByteArray := [sAA, sAB, sBB]
def avoidB (s : ByteArray) : Bool := !(setL.any fun p => Lib.contains s.data.toList p.data.toList)
set_option maxHeartbeats 1000000 in
theorem has_at (s : ByteArray) (w : World) (B : Nat) (hs : s.size < 4294967281) (hm : GlobM w) (hc : w.cell? ⟨B, 0, none⟩ = some (.string s)) :
    PredAt Try.prog 178 #[.pointer (some ⟨B, 0, none⟩)] Value.string (fun p => Lib.contains s.data.toList p.data.toList) w := fun W p hb => by
  have hB : B < w.heap.size := block_lt_of_cell hc
  have hc' : W.cell? ⟨B, 0, none⟩ = some (.string s) := (hb.cell (p := ⟨B, 0, none⟩) hB).trans hc
  have hm' := hm.below hb
  unfold FnGives
  have HC := Lib.hid (contains_any s p W hs hm')
  clear hc hb hm hm'
  go_enter Try.func178, Try.ntmps178
  go_wp2_with (go_at_call 179; refine HC.out.mono ?_; rintro e w1 ⟨rfl, rfl⟩)
  go_ret
  exact ⟨rfl, 0, rfl⟩
set_option maxHeartbeats 1000000 in
theorem avoids_any (s : ByteArray) (q : Bool) (ad : Addr) (c : Nat) (w : World) (hp : ad.spot = none) (hs : s.size < 4294967281) (hm : GlobM w) (hS : SetAt ad w) (hq : avoidB s = q) :
    Calls Try.prog 156 #[.slice (some ad) 3 c, .string s] w fun e w' => e = .returned (.bool q) ∧ Below w.heap.size w w' := by
  have hb := below_alloc (Below.refl w.heap.size w) (.cells #[.string s] 9)
  have hat := has_at s (w.alloc (.cells #[.string s] 9)) w.heap.size hs (hm.below hb) ((Whole.new w 9 #[.string s]).cell 0)
  have hS2 := hS.below hb
  obtain ⟨blk, off, spot⟩ := ad
  obtain rfl : spot = none := hp
  obtain ⟨c0, c1, c2⟩ := hS2
  have hcall := AnyE.slices_ContainsFunc Avd.lSome Value.string (fun p => Lib.contains s.data.toList p.data.toList) 178 #[.pointer (some ⟨w.heap.size, 0, none⟩)] (enters_of Try.func178 (by kernel_rfl) rfl) blk off 3 c setL (w.alloc (.cells #[.string s] 9)) hat (by simp [setL]) (by omega) (by
    intro j hj
    have : j < 3 := hj
    obtain rfl | rfl | rfl : j = 0 ∨ j = 1 ∨ j = 2 := by omega
    · exact c0
    · exact c1
    · exact c2)
  change Calls Try.prog 177 _ _ _ at hcall
  rw [show (setL.take 3).any (fun p => Lib.contains s.data.toList p.data.toList) = !q by rw [← hq, avoidB, Bool.not_not]; rfl] at hcall
  have HC := Lib.hid hcall
  clear hcall hat hS hq c0 c1 c2 hb
  go_enter Try.func156, Try.ntmps156
  go_wp2_with (go_at_call 177; refine HC.out.mono ?_; rintro e w1 ⟨rfl, m1, rfl⟩)
  go_ret
  exact ⟨by simp, pw_below_drewN (below_alloc (Below.refl _ _) _) _⟩
end Go.Proofs.Ytkefmlhkejoknaa.L
