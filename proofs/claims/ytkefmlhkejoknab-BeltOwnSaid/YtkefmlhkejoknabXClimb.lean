import Derived.Test.YtkefmlhkejoknabXBest
import Derived.Deep.QuietTactic
import Derived.BigQuiet

/- The walks of (graph).side and of both: a string as a side. -/
namespace Go.Proofs.Ytkefmlhkejoknab.L
set_option linter.unusedVariables false
set_option linter.unusedSimpArgs false
open Go.RowKit Go.Shelf Go.Proofs.YtkefmlhkejoknabW.PrintWords Go.Proofs.YtkefmlhkejoknabW.PrintLast

theorem u64_or_nat (a b : Nat) (ha : a < 18446744073709551616) (hb : b < 18446744073709551616) : bits .or .u64 (a : Int) (b : Int) = ((a ||| b : Nat) : Int) := by
  have h1 : ∀ x : Nat, x < 18446744073709551616 → (BitVec.ofInt 64 (x : Int)).toNat = x := fun x hx => by
    rw [BitVec.ofInt_natCast, BitVec.toNat_ofNat]; exact Nat.mod_eq_of_lt hx
  have hx : a ||| b < 2 ^ 64 := Nat.or_lt_two_pow (by omega) (by omega)
  show IntKind.u64.wrap ((BitVec.ofInt 64 (a : Int) ||| BitVec.ofInt 64 (b : Int)).toNat : Int) = _
  rw [BitVec.toNat_or, h1 a ha, h1 b hb, IntKind.wrap_u64]
  omega
theorem u64_xor_nat (a b : Nat) (ha : a < 18446744073709551616) (hb : b < 18446744073709551616) : bits .xor .u64 (a : Int) (b : Int) = ((a ^^^ b : Nat) : Int) := by
  have h1 : ∀ x : Nat, x < 18446744073709551616 → (BitVec.ofInt 64 (x : Int)).toNat = x := fun x hx => by
    rw [BitVec.ofInt_natCast, BitVec.toNat_ofNat]; exact Nat.mod_eq_of_lt hx
  have hx : a ^^^ b < 2 ^ 64 := Nat.xor_lt_two_pow (by omega) (by omega)
  show IntKind.u64.wrap ((BitVec.ofInt 64 (a : Int) ^^^ BitVec.ofInt 64 (b : Int)).toNat : Int) = _
  rw [BitVec.toNat_xor, h1 a ha, h1 b hb, IntKind.wrap_u64]
  omega
theorem pow_lt12 (j : Nat) (h : j < 12) : 2 ^ j < 4096 := by
  have : 2 ^ j < 2 ^ 12 := Nat.pow_lt_pow_right (by omega) h
  omega
theorem numB_lt (n : Int) (t : ByteArray) (k : Nat) (hn : n ≤ 12) (h0 : 1 ≤ n) : numB n t k < 4096 := by
  induction k with
  | zero => simp [numB]
  | succ k ih =>
    unfold numB
    split
    · have : 2 ^ (n - 1 - (k : Int)).toNat < 2 ^ 12 := Nat.pow_lt_pow_right (by omega) (by omega)
      exact Nat.or_lt_two_pow (n := 12) ih this
    · exact ih
theorem at_byte (t : ByteArray) (k : Nat) (h : k < t.size) : t.data.toList[k]? = some t[k] := by
  have : k < t.data.size := h
  rw [Array.getElem?_toList, Array.getElem?_eq_getElem this]
  rfl

/-- What (graph).side comes to. -/
def SidePost (n : Int) (t : ByteArray) (w : World) (e : Ending) (w' : World) : Prop :=
  ∃ x : Nat, e = .returned (.tuple #[.int .u64 (x : Int), .bool (sideOk n t)]) ∧ (sideOk n t = true → x = numB n t t.size) ∧ Below w.heap.size w w'
/-- The first k characters are in order. -/
def charsOk (t : ByteArray) (k : Nat) : Prop := ∀ j, j < k → t.data.toList[j]? = some 48 ∨ t.data.toList[j]? = some 49
theorem sideOk_bad (n : Int) (t : ByteArray) (k : Nat) (h : k < t.size) (h1 : t[k] ≠ 48) (h2 : t[k] ≠ 49) : sideOk n t = false := by
  rw [Bool.eq_false_iff]
  intro hh
  simp only [sideOk, Bool.and_eq_true, List.all_eq_true, Bool.or_eq_true, beq_iff_eq] at hh
  have hm : t[k] ∈ t.data.toList := List.mem_of_getElem? (at_byte t k h)
  rcases hh.2 _ hm with h | h
  · exact h1 h
  · exact h2 h
theorem sideOk_long (n : Int) (t : ByteArray) (h : n < (t.size : Int)) : sideOk n t = false := by
  rw [Bool.eq_false_iff]
  intro hh
  simp only [sideOk, Bool.and_eq_true, decide_eq_true_eq] at hh
  omega
theorem sideOk_end (n : Int) (t : ByteArray) (h : charsOk t t.size) : sideOk n t = ((t.size : Int) == n) := by
  have : (t.data.toList.all fun c => c == 48 || c == 49) = true := by
    rw [List.all_eq_true]
    intro c hc
    obtain ⟨j, hj, e⟩ := List.mem_iff_getElem.1 hc
    have hj' : j < t.size := by simpa using hj
    rcases h j hj' with h | h
    · rw [List.getElem?_eq_getElem hj, e] at h; simp [Option.some.inj h]
    · rw [List.getElem?_eq_getElem hj, e] at h; simp [Option.some.inj h]
  rw [sideOk, this, Bool.and_true]
  rfl

set_option maxHeartbeats 1000000 in
theorem side_any (n : Int) (ev : Value) (m : Nat) (t : ByteArray) (w : World) (hev : ev.oneCell' = true) (hn : n ≤ 12) (h0 : 1 ≤ n) (ht : t.size ≤ 140737488351232) :
    Calls Try.prog 69 #[gv n ev m, .string t] w (SidePost n t w) := by
  go_enter Try.func69, Try.ntmps69
  go_wp2
  go_loopw [6, 10] (fun x i wr => ∃ k : Nat, k ≤ t.size ∧ (k : Int) ≤ n ∧ i = .int .i64 k ∧ x = .int .u64 (numB n t k : Int) ∧ Below w.heap.size w wr ∧ Whole wr w.heap.size 52 #[.int .i64 n, ev, .map (some m)] ∧ Hid (charsOk t k)) (fun _ i _ => t.size - (intOf i).toNat)
  case atStart => exact ⟨0, Nat.zero_le _, by omega, rfl, rfl, (Below.refl _ _).alloc (Nat.le_refl _) _, Whole.new _ _ _, fun j hj => absurd hj (Nat.not_lt_zero _)⟩
  case round =>
    obtain ⟨k, hk, hkn, rfl, rfl, hB, hG, hO⟩ := hrel
    have hlt' := hG.lt
    have g0 := hG.cell 0
    have g1 := hG.cell 1
    have g2 := hG.cell 2
    simp only [List.getElem?_toArray, List.getElem?_cons_zero, List.getElem?_cons_succ] at g0 g1 g2
    by_cases hlt : k < t.size
    · by_cases hkn' : (k : Int) < n
      · have hat := at_byte t k hlt
        by_cases c0 : t[k] = 48
        · have HN := Lib.hid (show numB n t (k + 1) = numB n t k from by rw [numB, hat, c0]; rfl)
          have HO := Lib.hid (show charsOk t (k + 1) from fun j hj => by
            by_cases e : j = k
            · subst e; exact .inl (by rw [hat, c0])
            · exact hO.out j (by omega))
          have d0 : ((t[k].toNat : Int) != 48) = false := by rw [c0]; rfl
          have d1 : ((t[k].toNat : Int) == 49) = false := by rw [c0]; rfl
          clear c0 hat
          go_wp2
          exact ⟨⟨k + 1, by omega, by omega, by go_num, by rw [HN.out], hB, hG, HO⟩, by simp [intOf]; omega⟩
        · have d0 : ((t[k].toNat : Int) != 48) = true := by
            rw [bne_iff_ne]; intro e; apply c0; apply UInt8.toNat_inj.1; show t[k].toNat = 48; omega
          by_cases c1 : t[k] = 49
          · have HN := Lib.hid (show numB n t (k + 1) = numB n t k ||| 2 ^ (n - 1 - (k : Int)).toNat from by rw [numB, hat, c1]; rfl)
            have HO := Lib.hid (show charsOk t (k + 1) from fun j hj => by
              by_cases e : j = k
              · subst e; exact .inr (by rw [hat, c1])
              · exact hO.out j (by omega))
            have d1 : ((t[k].toNat : Int) == 49) = true := by rw [c1]; rfl
            have d2 : ((t[k].toNat : Int) != 49) = false := by rw [c1]; rfl
            have hq := pow_lt12 (n - 1 - (k : Int)).toNat (by omega)
            have hbit := fun W => bit_any n ev m k W hev hn (by omega) hkn'
            generalize 2 ^ (n - 1 - (k : Int)).toNat = q at HN hq hbit
            have hu := u64_or_nat (numB n t k) q (by have := numB_lt n t k hn h0; omega) (by omega)
            generalize numB n t k ||| q = r at HN hu
            have HU := Lib.hid hu
            have HBIT := Lib.hid hbit
            have HG := Lib.hid (hG.alloc (gbox n ev m))
            have HB := Lib.hid (hB.alloc hB.size (gbox n ev m))
            clear c0 c1 hat hu hG hB hbit
            go_wp2_with (go_at_call 66; refine (HBIT.out _).mono ?_; rintro e w' ⟨rfl, rfl⟩; have hu := HU.out)
            exact ⟨⟨k + 1, by omega, by omega, by go_num, by rw [HN.out], HB.out, HG.out, HO⟩, by simp [intOf]; omega⟩
          · have HX := Lib.hid (sideOk_bad n t k hlt c0 c1)
            have d1 : ((t[k].toNat : Int) != 49) = true := by
              rw [bne_iff_ne]; intro e; apply c1; apply UInt8.toNat_inj.1; show t[k].toNat = 49; omega
            clear c0 c1 hat
            go_wp2
            go_ret2
            exact ⟨0, by rw [HX.out]; rfl, (by rw [HX.out]; intro h; cases h), hB⟩
      · have HX := Lib.hid (sideOk_long n t (by omega))
        by_cases c0 : t[k] = 48
        · have d0 : ((t[k].toNat : Int) != 48) = false := by rw [c0]; rfl
          clear c0
          go_wp2
          go_ret2
          exact ⟨0, by rw [HX.out]; rfl, (by rw [HX.out]; intro h; cases h), hB⟩
        · have d0 : ((t[k].toNat : Int) != 48) = true := by
            rw [bne_iff_ne]; intro e; apply c0; apply UInt8.toNat_inj.1; show t[k].toNat = 48; omega
          by_cases c1 : t[k] = 49
          · have d2 : ((t[k].toNat : Int) != 49) = false := by rw [c1]; rfl
            clear c0 c1
            go_wp2
            go_ret2
            exact ⟨0, by rw [HX.out]; rfl, (by rw [HX.out]; intro h; cases h), hB⟩
          · have d1 : ((t[k].toNat : Int) != 49) = true := by
              rw [bne_iff_ne]; intro e; apply c1; apply UInt8.toNat_inj.1; show t[k].toNat = 49; omega
            clear c0 c1
            go_wp2
            go_ret2
            exact ⟨0, by rw [HX.out]; rfl, (by rw [HX.out]; intro h; cases h), hB⟩
    · obtain rfl : k = t.size := by omega
      have HX := Lib.hid (sideOk_end n t hO.out)
      go_wp2
      go_quiet (fail)
      go_wp2
      go_ret2
      exact ⟨numB n t t.size, by rw [HX.out]; rfl, fun _ => rfl, pw_below_drewN hB _⟩

/-- What both comes to. -/
def BothPost (n : Int) (A : Option Addr) (c : Nat) (l : List S46) (t : ByteArray) (w : World) (e : Ending) (w' : World) : Prop :=
  ∃ (x : Nat), e = .returned (.tuple #[gv n (.slice A l.length c) (w.heap.size + 1 + 1), .int .u64 (x : Int), .bool (graphOk n l && sideOk n t)]) ∧
    (graphOk n l = true → sideOk n t = true → x = numB n t t.size ∧ MapIs w' (w.heap.size + 1 + 1) l) ∧ Below w.heap.size w w'
/-- The result's slot, behind a call. -/
theorem zero_kept {w w1 : World} (hb : Below (w.alloc (.cells #[.int .i64 0, .slice none 0 0, .map none] 52)).heap.size (w.alloc (.cells #[.int .i64 0, .slice none 0 0, .map none] 52)) w1) :
    w1.cell? ⟨w.heap.size, 0, none⟩ = some (.int .i64 0) ∧ w1.cell? ⟨w.heap.size, 1, none⟩ = some (.slice none 0 0) ∧ w1.cell? ⟨w.heap.size, 2, none⟩ = some (.map none) ∧
    w1.frozen? ⟨w.heap.size, 0, none⟩ = false ∧ w1.frozen? ⟨w.heap.size, 1, none⟩ = false ∧ w1.frozen? ⟨w.heap.size, 2, none⟩ = false ∧ w.heap.size < w1.heap.size ∧ Hid (Whole w1 w.heap.size 52 #[.int .i64 0, .slice none 0 0, .map none]) := by
  have Z := (Whole.new w 52 #[.int .i64 0, .slice none 0 0, .map none]).below hb (by simp)
  exact ⟨Z.cell 0, Z.cell 1, Z.cell 2, Z.frozen 0, Z.frozen 1, Z.frozen 2, Z.lt, Z⟩
theorem two_kept {w1 w2 : World} {v0 v1 v2 : Value} {u : Nat} {x0 x1 x2 : Value} (hu : u < w1.heap.size) (Z : Hid (Whole w1 u 52 #[x0, x1, x2])) (hb : Below (w1.alloc (.cells #[v0, v1, v2] 52)).heap.size (w1.alloc (.cells #[v0, v1, v2] 52)) w2) :
    w2.cell? ⟨u, 0, none⟩ = some x0 ∧ w2.cell? ⟨u, 1, none⟩ = some x1 ∧ w2.cell? ⟨u, 2, none⟩ = some x2 ∧
    w2.frozen? ⟨u, 0, none⟩ = false ∧ w2.frozen? ⟨u, 1, none⟩ = false ∧ w2.frozen? ⟨u, 2, none⟩ = false ∧
    w2.cell? ⟨w1.heap.size, 0, none⟩ = some v0 ∧ w2.cell? ⟨w1.heap.size, 1, none⟩ = some v1 ∧ w2.cell? ⟨w1.heap.size, 2, none⟩ = some v2 ∧ w1.heap.size < w2.heap.size ∧ u < w2.heap.size := by
  have Z2 := (Whole.alloc Z (.cells #[v0, v1, v2] 52)).below hb (by simp; omega)
  have G := (Whole.new w1 52 #[v0, v1, v2]).below hb (by simp)
  exact ⟨Z2.cell 0, Z2.cell 1, Z2.cell 2, Z2.frozen 0, Z2.frozen 1, Z2.frozen 2, G.cell 0, G.cell 1, G.cell 2, G.lt, Z2.lt⟩

set_option maxHeartbeats 1000000 in
theorem both_any (n : Int) (A : Option Addr) (c : Nat) (l : List S46) (t : ByteArray) (w : World) (hC : Kd.C k46 w A l.length l) (ht : t.size ≤ 140737488351232) :
    Calls Try.prog 41 #[.int .i64 n, .slice A l.length c, .string t] w (BothPost n A c l t w) := by
  have HC := Lib.hid hC
  clear hC
  cases hg : graphOk n l
  · have HG := Lib.hid hg
    clear hg
    go_enter Try.func41, Try.ntmps41
    go_wp2_with (go_at_call 23; refine (newGraph_any n A c l _ (Kd.C_alloc HC.out _)).mono ?_; rintro e w1 ⟨rfl, hb, _⟩; have hg := HG.out; obtain ⟨z0, z1, z2, y0, y1, y2, hb8, HZ⟩ := zero_kept hb; have HB := Lib.hid hb; clear hb)
    refine bodyPost_ret (v := .tuple #[gv n (.slice A l.length c) (w.heap.size + 1 + 1), .int .u64 0, .bool false]) (by simp [results, Try.results41, go_sem, z0, z1, z2, hb8]) rfl ⟨0, by rw [HG.out]; rfl, (by rw [HG.out]; intro h; cases h), ?_⟩
    have q1 := below_then (below_alloc (Below.refl w.heap.size w) (.cells #[.int .i64 0, .slice none 0 0, .map none] 52)) (by simp) HB.out
    exact below_alloc (Below.setAt (Below.setAt (Below.setAt q1 (Nat.le_refl _) 0 _) (Nat.le_refl _) 1 _) (Nat.le_refl _) 2 _) _
  · obtain ⟨h0, hn⟩ := graphOk_n hg
    have HG := Lib.hid hg
    clear hg
    go_enter Try.func41, Try.ntmps41
    go_wp2_with (first
      | (go_at_call 23; refine (newGraph_any n A c l _ (Kd.C_alloc HC.out _)).mono ?_; rintro e w1 ⟨rfl, hb, hm⟩; have hg := HG.out; have HM := Lib.hid (hm hg); clear hm; obtain ⟨z0, z1, z2, y0, y1, y2, hb8, HZ⟩ := zero_kept hb; have HB := Lib.hid hb; clear hb)
      | (go_at_call 69; refine (side_any n _ _ t _ rfl hn h0 ht).mono ?_; rintro e w2 ⟨x, rfl, hx, hb2⟩; have HX := Lib.hid hx; clear z0 z1 z2 y0 y1 y2; obtain ⟨z0, z1, z2, y0, y1, y2, g0, g1, g2, hb9, hb10⟩ := two_kept hb8 HZ hb2; have HB2 := Lib.hid hb2; clear hx hb2))
    have q1 := below_then (below_alloc (Below.refl w.heap.size w) (.cells #[.int .i64 0, .slice none 0 0, .map none] 52)) (by simp) HB.out
    have q2 := below_alloc q1 (gbox n (.slice A l.length c) (w.heap.size + 1 + 1))
    have q3 := below_then q2 q2.size HB2.out
    have HMM := (HM.out.alloc (gbox n (.slice A l.length c) (w.heap.size + 1 + 1))).below HB2.out (by have := HM.out.lt; simp at this ⊢; omega)
    refine bodyPost_ret (v := .tuple #[gv n (.slice A l.length c) (w.heap.size + 1 + 1), .int .u64 (x : Int), .bool (sideOk n t)]) (by simp [results, Try.results41, go_sem, z0, z1, z2]) rfl ⟨x, by rw [HG.out]; rfl, fun _ h2 => ⟨HX.out h2, ?_⟩, ?_⟩
    · have M2 := ((HMM.setCell ⟨w.heap.size, 0, none⟩ (.int .i64 n)).setCell ⟨w.heap.size, 1, none⟩ (.slice A l.length c)).setCell ⟨w.heap.size, 2, none⟩ (.map (some (w.heap.size + 1 + 1)))
      simp only [World.size_alloc] at M2
      exact M2
    · exact Below.setAt (Below.setAt (Below.setAt q3 (Nat.le_refl _) 0 _) (Nat.le_refl _) 1 _) (Nat.le_refl _) 2 _

end Go.Proofs.Ytkefmlhkejoknab.L

/- The walk of (graph).gains: the gains of a side, in an array of twelve numbers. -/
namespace Go.Proofs.Ytkefmlhkejoknab.L
set_option linter.unusedVariables false
set_option linter.unusedSimpArgs false
open Go.RowKit Go.Shelf Go.Proofs.YtkefmlhkejoknabW.PrintWords Go.Proofs.YtkefmlhkejoknabW.PrintLast

theorem gainB_append (n : Int) (s i : Nat) (a b : List S46) : gainB n s i (a ++ b) = gainB n s i a + gainB n s i b := by
  induction a with
  | nil => simp [gainB]
  | cons e a ih => simp only [List.cons_append, gainB, ih]; omega
/-- What an edge adds to the gains of its ends. -/
def gainE (n : Int) (s : Nat) (e : S46) : Int := if cutB n s e then - e.f2 else e.f2
theorem gainB_take (n : Int) (s i : Nat) (l : List S46) (k : Nat) (hk : k < l.length) : gainB n s i (l.take (k + 1)) = gainB n s i (l.take k) + (if (rd_T46 l (k : Int)).f0 = (i : Int) ∨ (rd_T46 l (k : Int)).f1 = (i : Int) then gainE n s (rd_T46 l (k : Int)) else 0) := by
  rw [take_snoc l k hk, gainB_append]
  simp [gainB, gainE]
theorem gainB_bound (n : Int) (s i : Nat) (l : List S46) (h : EdgesIn n l) (k : Nat) (hk : k ≤ l.length) : - (50 * (k : Int)) ≤ gainB n s i (l.take k) ∧ gainB n s i (l.take k) ≤ 50 * (k : Int) := by
  induction k with
  | zero => simp [gainB]
  | succ k ih =>
    have := ih (by omega)
    have hb := h k (by omega)
    rw [gainB_take n s i l k (by omega)]
    unfold gainE
    split
    · split <;> omega
    · omega

/-- The twelve cells, k edges being counted. -/
def cellsG (n : Int) (s : Nat) (l : List S46) (k : Nat) : Array Value := ((List.range 12).map fun i => Value.int .i64 (gainB n s i (l.take k))).toArray
theorem cellsG_at (n : Int) (s : Nat) (l : List S46) (k i : Nat) (hi : i < 12) : (cellsG n s l k)[i]? = some (.int .i64 (gainB n s i (l.take k))) := by
  simp [cellsG, hi]
theorem cellsG_zero (n : Int) (s : Nat) (l : List S46) : cellsG n s l 0 = #[.int .i64 0, .int .i64 0, .int .i64 0, .int .i64 0, .int .i64 0, .int .i64 0, .int .i64 0, .int .i64 0, .int .i64 0, .int .i64 0, .int .i64 0, .int .i64 0] := by
  simp [cellsG, gainB]; rfl
theorem cellsG_set (n : Int) (s : Nat) (l : List S46) (k : Nat) (hk : k < l.length) (a b : Nat) (ha : (rd_T46 l (k : Int)).f0 = (a : Int)) (hb : (rd_T46 l (k : Int)).f1 = (b : Int)) (hne : a ≠ b) (x : Int) (hx : gainE n s (rd_T46 l (k : Int)) = x) :
    ((cellsG n s l k).setIfInBounds a (.int .i64 (gainB n s a (l.take k) + x))).setIfInBounds b (.int .i64 (gainB n s b (l.take k) + x)) = cellsG n s l (k + 1) := by
  apply Array.ext_getElem?
  intro i
  rcases Nat.lt_or_ge i 12 with hi | hi
  · rw [cellsG_at n s l (k + 1) i hi, gainB_take n s i l k hk, ha, hb, hx]
    by_cases e2 : b = i
    · subst e2
      rw [Array.getElem?_setIfInBounds_self_of_lt (by simp [cellsG]; exact hi)]
      simp
    · rw [Array.getElem?_setIfInBounds_ne e2]
      by_cases e1 : a = i
      · subst e1
        rw [Array.getElem?_setIfInBounds_self_of_lt (by simp [cellsG]; exact hi)]
        simp
      · rw [Array.getElem?_setIfInBounds_ne e1, cellsG_at n s l k i hi, if_neg (by omega), Int.add_zero]
  · rw [Array.getElem?_eq_none (by simp [cellsG]; exact hi), Array.getElem?_eq_none (by simp [cellsG]; exact hi)]

set_option maxHeartbeats 2000000 in
theorem gains_any (n : Int) (A : Option Addr) (c m : Nat) (l : List S46) (s : Nat) (w : World) (hg : graphOk n l = true) (hs : s < 4096) (hC : Kd.C k46 w A l.length l) :
    Calls Try.prog 43 #[gv n (.slice A l.length c) m, .int .u64 (s : Int)] w fun e w' => e = .returned (.agg (cellsG n s l l.length)) ∧ Below w.heap.size w w' := by
  obtain ⟨h0, hn⟩ := graphOk_n hg
  have hl := graphOk_len hg
  have HC := Lib.hid hC
  have HG := Lib.hid hg
  have HE := Lib.hid (graphOk_edges hg)
  clear hC hg
  go_enter Try.func43, Try.ntmps43
  go_wp2
  go_loopw [12] (fun i wr => ∃ k : Nat, k ≤ l.length ∧ i = .int .i64 k ∧ Below w.heap.size w wr ∧ Whole wr w.heap.size 52 #[.int .i64 n, .slice A l.length c, .map (some m)] ∧ Whole wr (w.heap.size + 1) 89 (cellsG n s l 0) ∧ Whole wr (w.heap.size + 1 + 1) 89 (cellsG n s l k)) (fun i _ => l.length - (intOf i).toNat)
  case atStart =>
    refine ⟨0, Nat.zero_le _, rfl, below_alloc (below_alloc (below_alloc (Below.refl _ _) _) _) _, ((Whole.new w 52 _).alloc _).alloc _, ?_, ?_⟩
    · rw [cellsG_zero]
      have := (Whole.new (w.alloc (gbox n (.slice A l.length c) m)) 89 #[.int .i64 0, .int .i64 0, .int .i64 0, .int .i64 0, .int .i64 0, .int .i64 0, .int .i64 0, .int .i64 0, .int .i64 0, .int .i64 0, .int .i64 0, .int .i64 0]).alloc (.cells #[.int .i64 0, .int .i64 0, .int .i64 0, .int .i64 0, .int .i64 0, .int .i64 0, .int .i64 0, .int .i64 0, .int .i64 0, .int .i64 0, .int .i64 0, .int .i64 0] 89)
      simpa using this
    · rw [cellsG_zero]
      have := (Whole.new ((w.alloc (gbox n (.slice A l.length c) m)).alloc (.cells #[.int .i64 0, .int .i64 0, .int .i64 0, .int .i64 0, .int .i64 0, .int .i64 0, .int .i64 0, .int .i64 0, .int .i64 0, .int .i64 0, .int .i64 0, .int .i64 0] 89)) 89 #[.int .i64 0, .int .i64 0, .int .i64 0, .int .i64 0, .int .i64 0, .int .i64 0, .int .i64 0, .int .i64 0, .int .i64 0, .int .i64 0, .int .i64 0, .int .i64 0])
      simpa using this
  case round =>
    obtain ⟨k, hk, rfl, hB, hZ1, hZ2, hZ3⟩ := hrel
    by_cases hlt : k < l.length
    · obtain ⟨ad, rfl, hc0, hc1, hc2⟩ := at_T46 (Kd.C_below HC.out hB) (k : Int) (by omega) (by omega)
      simp only [Int.toNat_natCast] at hc0 hc1 hc2
      have hX := (edgeOk_iff ..).1 (graphOk_edge HG.out k hlt).1
      have hset := cellsG_set n s l k hlt
      have hcut : gainE n s (rd_T46 l (k : Int)) = if cutB n s (rd_T46 l (k : Int)) then - (rd_T46 l (k : Int)).f2 else (rd_T46 l (k : Int)).f2 := rfl
      generalize rd_T46 l (k : Int) = x at hc0 hc1 hc2 hX hset hcut
      obtain ⟨xa, xb, xc⟩ := x
      dsimp only at hc0 hc1 hc2 hX hset hcut
      obtain ⟨⟨e3, e4⟩, ⟨e1, e2⟩, e5, e6⟩ := hX
      obtain ⟨a, rfl⟩ := Int.eq_ofNat_of_zero_le e1
      obtain ⟨b, rfl⟩ := Int.eq_ofNat_of_zero_le (show 0 ≤ xb by omega)
      have hab : ¬ a = b := by omega
      have hba : ¬ b = a := by omega
      have ga := gainB_bound n s a l HE.out k hk
      have gb := gainB_bound n s b l HE.out k hk
      have e7 : (a : Int) < 12 := by omega
      have e8 : (b : Int) < 12 := by omega
      have HSET := Lib.hid (fun x hx => hset a b rfl rfl hab x hx)
      have HB := Lib.hid hB
      have H1 := Lib.hid hZ1
      have H2 := Lib.hid hZ2
      have H3 := Lib.hid hZ3
      have hlt3 := hZ3.lt
      have hlt1 : w.heap.size < wr.heap.size := hZ1.lt
      have hlt2 := hZ2.lt
      clear hset hB hZ1 hZ2 hZ3
      go_wp2
      obtain ⟨W1, hW1⟩ : ∃ W1, wr.alloc (Obj.cells #[Value.int IntKind.i64 ↑a, Value.int IntKind.i64 ↑b, Value.int IntKind.i64 xc] 46) = W1 := ⟨_, rfl⟩
      have G1 := H1.out.alloc (Obj.cells #[Value.int IntKind.i64 ↑a, Value.int IntKind.i64 ↑b, Value.int IntKind.i64 xc] 46)
      have Z1 := H2.out.alloc (Obj.cells #[Value.int IntKind.i64 ↑a, Value.int IntKind.i64 ↑b, Value.int IntKind.i64 xc] 46)
      have Z2 := H3.out.alloc (Obj.cells #[Value.int IntKind.i64 ↑a, Value.int IntKind.i64 ↑b, Value.int IntKind.i64 xc] 46)
      have E1 := Whole.new wr 46 #[Value.int IntKind.i64 ↑a, Value.int IntKind.i64 ↑b, Value.int IntKind.i64 xc]
      have B1 := below_alloc HB.out (Obj.cells #[Value.int IntKind.i64 ↑a, Value.int IntKind.i64 ↑b, Value.int IntKind.i64 xc] 46)
      rw [hW1] at G1 Z1 Z2 E1 B1 ⊢
      clear hW1 hc0 hc1 hc2
      have g0 := G1.cell 0
      have g1 := G1.cell 1
      have g2 := G1.cell 2
      have x0 := E1.cell 0
      have x1 := E1.cell 1
      simp only [List.getElem?_toArray, List.getElem?_cons_zero, List.getElem?_cons_succ] at g0 g1 g2 x0 x1
      have hltE := E1.lt
      have b1 : (a : Int) < n := by omega
      have b2 : (b : Int) < n := by omega
      have b3 : (0 : Int) ≤ b := by omega
      go_region_held3 (fun w' => w'.cell? ⟨w.heap.size, 0, none⟩ = some (.int .i64 n) ∧ w'.cell? ⟨w.heap.size, 1, none⟩ = some (.slice (some ad) l.length c) ∧ w'.cell? ⟨w.heap.size, 2, none⟩ = some (.map (some m)) ∧ w'.cell? ⟨wr.heap.size, 0, none⟩ = some (.int .i64 a) ∧ w'.cell? ⟨wr.heap.size, 1, none⟩ = some (.int .i64 b)) (go_keep)
        (first | (go_at_call 42; refine (has_any n _ m s _ _ rfl hn ?_ ?_ hs).mono ?_; (first | exact e1 | exact b3); (first | exact b1 | exact b2); rintro e w' ⟨rfl, rfl⟩))
      have B3 := (below_alloc (below_alloc B1 (gbox n (.slice (some ad) l.length c) m)) (gbox n (.slice (some ad) l.length c) m)).drew
      have G3 := ((G1.alloc (gbox n (.slice (some ad) l.length c) m)).alloc (gbox n (.slice (some ad) l.length c) m)).drew
      have Z13 := ((Z1.alloc (gbox n (.slice (some ad) l.length c) m)).alloc (gbox n (.slice (some ad) l.length c) m)).drew
      have Z23 := ((Z2.alloc (gbox n (.slice (some ad) l.length c) m)).alloc (gbox n (.slice (some ad) l.length c) m)).drew
      have E3 := ((E1.alloc (gbox n (.slice (some ad) l.length c) m)).alloc (gbox n (.slice (some ad) l.length c) m)).drew
      have hsz3 : w.heap.size + 1 + 1 < ((W1.alloc (gbox n (.slice (some ad) l.length c) m)).alloc (gbox n (.slice (some ad) l.length c) m)).drew.heap.size := Z23.lt
      generalize ((W1.alloc (gbox n (.slice (some ad) l.length c) m)).alloc (gbox n (.slice (some ad) l.length c) m)).drew = W3 at B3 G3 Z13 Z23 E3 hsz3 ⊢
      have zc := H3.lt
      have za := cellsG_at n s l k a (by omega)
      have zb := cellsG_at n s l k b (by omega)
      have z0 := Z23.cell a
      have z1 := Z23.cell b
      have zf := Z23.frozen
      rw [za] at z0
      rw [zb] at z1
      have x2 := E3.cell 2
      have y0 := E3.cell 0
      have y1 := E3.cell 1
      simp only [List.getElem?_toArray, List.getElem?_cons_zero, List.getElem?_cons_succ] at x2 y0 y1
      clear x0 x1
      have gA := Lib.hid ga
      have gB := Lib.hid gb
      generalize hva : gainB n s a (List.take k l) = va at z0 z1 ga gb
      generalize hvb : gainB n s b (List.take k l) = vb at z0 z1 ga gb
      rw [hva, hvb] at HSET
      clear za zb hva hvb gA gB
      cases hcut' : (!(hasB n s a == hasB n s b))
      · have hx : gainE n s ⟨(a : Int), (b : Int), xc⟩ = xc := by rw [hcut]; simp [cutB, bne, hcut']
        have HS := Lib.hid (HSET.out xc hx)
        clear hx hcut HSET
        go_wp2
        exact ⟨⟨k + 1, by omega, by go_num, Below.setAt (Below.setAt B3 (b := w.heap.size + 1 + 1) (by omega) a _) (b := w.heap.size + 1 + 1) (by omega) b _, (G3.far (by show w.heap.size ≠ w.heap.size + 1 + 1; omega) _).far (by show w.heap.size ≠ w.heap.size + 1 + 1; omega) _, (Z13.far (by show w.heap.size + 1 ≠ w.heap.size + 1 + 1; omega) _).far (by show w.heap.size + 1 ≠ w.heap.size + 1 + 1; omega) _, by rw [← HS.out]; exact (Z23.set _ _).set _ _⟩, by simp [intOf]; omega⟩
      · have hx : gainE n s ⟨(a : Int), (b : Int), xc⟩ = - xc := by rw [hcut]; simp [cutB, bne, hcut']
        have HS := Lib.hid (HSET.out (-xc) hx)
        clear hx hcut HSET
        go_wp2
        exact ⟨⟨k + 1, by omega, by go_num, Below.setAt (Below.setAt B3 (b := w.heap.size + 1 + 1) (by omega) a _) (b := w.heap.size + 1 + 1) (by omega) b _, (G3.far (by show w.heap.size ≠ w.heap.size + 1 + 1; omega) _).far (by show w.heap.size ≠ w.heap.size + 1 + 1; omega) _, (Z13.far (by show w.heap.size + 1 ≠ w.heap.size + 1 + 1; omega) _).far (by show w.heap.size + 1 ≠ w.heap.size + 1 + 1; omega) _, by rw [← HS.out]; exact (Z23.set _ _).set _ _⟩, by simp [intOf]; omega⟩
    · have hk' : k = l.length := by omega
      subst hk'
      have c := fun i (hi : i < 12) => (hZ3.cell i).trans (cellsG_at n s l l.length i hi)
      have c0 := c 0 (by omega)
      have c1 := c 1 (by omega)
      have c2 := c 2 (by omega)
      have c3 := c 3 (by omega)
      have c4 := c 4 (by omega)
      have c5 := c 5 (by omega)
      have c6 := c 6 (by omega)
      have c7 := c 7 (by omega)
      have c8 := c 8 (by omega)
      have c9 := c 9 (by omega)
      have c10 := c 10 (by omega)
      have c11 := c 11 (by omega)
      have d := fun i (hi : i < 12) => (hZ2.cell i).trans (cellsG_at n s l 0 i hi)
      have d0 := d 0 (by omega)
      have d1 := d 1 (by omega)
      have d2 := d 2 (by omega)
      have d3 := d 3 (by omega)
      have d4 := d 4 (by omega)
      have d5 := d 5 (by omega)
      have d6 := d 6 (by omega)
      have d7 := d 7 (by omega)
      have d8 := d 8 (by omega)
      have d9 := d 9 (by omega)
      have d10 := d 10 (by omega)
      have d11 := d 11 (by omega)
      have f2 := hZ2.frozen
      have hcc : cellsG n s l l.length = #[.int .i64 (gainB n s 0 (l.take l.length)), .int .i64 (gainB n s 1 (l.take l.length)), .int .i64 (gainB n s 2 (l.take l.length)), .int .i64 (gainB n s 3 (l.take l.length)), .int .i64 (gainB n s 4 (l.take l.length)), .int .i64 (gainB n s 5 (l.take l.length)), .int .i64 (gainB n s 6 (l.take l.length)), .int .i64 (gainB n s 7 (l.take l.length)), .int .i64 (gainB n s 8 (l.take l.length)), .int .i64 (gainB n s 9 (l.take l.length)), .int .i64 (gainB n s 10 (l.take l.length)), .int .i64 (gainB n s 11 (l.take l.length))] := by
        apply Array.ext'
        simp [cellsG]; rfl
      have HCC := Lib.hid hcc
      have HB := Lib.hid hB
      have H2 := Lib.hid hZ2
      clear c d hZ1 hZ2 hZ3 hB hcc
      go_wp2
      have hW := ((((((((((((H2.out.set 0 (.int .i64 (gainB n s 0 l))).set 1 (.int .i64 (gainB n s 1 l))).set 2 (.int .i64 (gainB n s 2 l))).set 3 (.int .i64 (gainB n s 3 l))).set 4 (.int .i64 (gainB n s 4 l))).set 5 (.int .i64 (gainB n s 5 l))).set 6 (.int .i64 (gainB n s 6 l))).set 7 (.int .i64 (gainB n s 7 l))).set 8 (.int .i64 (gainB n s 8 l))).set 9 (.int .i64 (gainB n s 9 l))).set 10 (.int .i64 (gainB n s 10 l))).set 11 (.int .i64 (gainB n s 11 l)))
      have hBW := (Below.setAt (Below.setAt (Below.setAt (Below.setAt (Below.setAt (Below.setAt (Below.setAt (Below.setAt (Below.setAt (Below.setAt (Below.setAt (Below.setAt HB.out (b := w.heap.size + 1) (by omega) 0 (.int .i64 (gainB n s 0 l))) (b := w.heap.size + 1) (by omega) 1 (.int .i64 (gainB n s 1 l))) (b := w.heap.size + 1) (by omega) 2 (.int .i64 (gainB n s 2 l))) (b := w.heap.size + 1) (by omega) 3 (.int .i64 (gainB n s 3 l))) (b := w.heap.size + 1) (by omega) 4 (.int .i64 (gainB n s 4 l))) (b := w.heap.size + 1) (by omega) 5 (.int .i64 (gainB n s 5 l))) (b := w.heap.size + 1) (by omega) 6 (.int .i64 (gainB n s 6 l))) (b := w.heap.size + 1) (by omega) 7 (.int .i64 (gainB n s 7 l))) (b := w.heap.size + 1) (by omega) 8 (.int .i64 (gainB n s 8 l))) (b := w.heap.size + 1) (by omega) 9 (.int .i64 (gainB n s 9 l))) (b := w.heap.size + 1) (by omega) 10 (.int .i64 (gainB n s 10 l))) (b := w.heap.size + 1) (by omega) 11 (.int .i64 (gainB n s 11 l)))
      have hcc := HCC.out
      rw [List.take_length] at hcc
      have hsz : ((((((((((((cellsG n s l 0).setIfInBounds 0 (.int .i64 (gainB n s 0 l))).setIfInBounds 1 (.int .i64 (gainB n s 1 l))).setIfInBounds 2 (.int .i64 (gainB n s 2 l))).setIfInBounds 3 (.int .i64 (gainB n s 3 l))).setIfInBounds 4 (.int .i64 (gainB n s 4 l))).setIfInBounds 5 (.int .i64 (gainB n s 5 l))).setIfInBounds 6 (.int .i64 (gainB n s 6 l))).setIfInBounds 7 (.int .i64 (gainB n s 7 l))).setIfInBounds 8 (.int .i64 (gainB n s 8 l))).setIfInBounds 9 (.int .i64 (gainB n s 9 l))).setIfInBounds 10 (.int .i64 (gainB n s 10 l))).setIfInBounds 11 (.int .i64 (gainB n s 11 l)) = cellsG n s l l.length := by
        rw [hcc, cellsG_zero]; simp
      rw [hsz] at hW
      have r := hW.cell
      rw [hcc] at r ⊢
      have r0 := r 0
      have r1 := r 1
      have r2 := r 2
      have r3 := r 3
      have r4 := r 4
      have r5 := r 5
      have r6 := r 6
      have r7 := r 7
      have r8 := r 8
      have r9 := r 9
      have r10 := r 10
      have r11 := r 11
      simp only [List.getElem?_toArray, List.getElem?_cons_zero, List.getElem?_cons_succ] at r0 r1 r2 r3 r4 r5 r6 r7 r8 r9 r10 r11
      generalize World.setCell _ _ _ = W9 at r0 r1 r2 r3 r4 r5 r6 r7 r8 r9 r10 r11 hBW ⊢
      exact bodyPost_ret (v := .agg #[.int .i64 (gainB n s 0 l), .int .i64 (gainB n s 1 l), .int .i64 (gainB n s 2 l), .int .i64 (gainB n s 3 l), .int .i64 (gainB n s 4 l), .int .i64 (gainB n s 5 l), .int .i64 (gainB n s 6 l), .int .i64 (gainB n s 7 l), .int .i64 (gainB n s 8 l), .int .i64 (gainB n s 9 l), .int .i64 (gainB n s 10 l), .int .i64 (gainB n s 11 l)]) (by simp [results, Try.results43, go_sem, r0, r1, r2, r3, r4, r5, r6, r7, r8, r9, r10, r11]) rfl ⟨rfl, hBW⟩

end Go.Proofs.Ytkefmlhkejoknab.L

/- The walk of slices.IndexFunc with Climb's question: the first positive one of the gains. -/
namespace Go.Proofs.Ytkefmlhkejoknab.L
set_option linter.unusedVariables false
set_option linter.unusedSimpArgs false
open Go.RowKit Go.Shelf Go.Proofs.YtkefmlhkejoknabW.PrintWords Go.Proofs.YtkefmlhkejoknabW.PrintLast

/-- The index that is found, or -1. -/
def idxOf : Option Nat → Int
  | some v => (v : Int)
  | none => -1
theorem find_upTo (p : Nat → Bool) (n k : Nat) (hk : k < n) (hno : ∀ i, i < k → p i = false) (hp : p k = true) : (List.range n).find? p = some k := by
  rw [List.find?_range_eq_some]
  exact ⟨hp, by simpa using hk, fun j hj => by simp [hno j hj]⟩
theorem find_none (p : Nat → Bool) (n : Nat) (hno : ∀ i, i < n → p i = false) : (List.range n).find? p = none := by
  rw [List.find?_eq_none]
  intro x hx
  simp [hno x (by simpa using hx)]

set_option maxHeartbeats 1000000 in
theorem index_any (n c : Nat) (b : Nat) (xs : Nat → Int) (w : World) (hn : n ≤ 12) (hb : b < w.heap.size) (hc : ∀ i, i < n → w.cell? ⟨b, i, none⟩ = some (.int .i64 (xs i))) :
    Calls Try.prog 64 #[.slice (some ⟨b, 0, none⟩) n c, .func (.func 65) #[] #[]] w fun e w' => e = .returned (.int .i64 (idxOf ((List.range n).find? fun i => decide (0 < xs i)))) ∧ w = w' := by
  have HC := Lib.hid hc
  clear hc
  go_enter Try.func64, Try.ntmps64
  go_wp2
  go_loopw [8] (fun i wr => ∃ k : Nat, k ≤ n ∧ i = .int .i64 k ∧ w = wr ∧ Hid (∀ j, j < k → decide (0 < xs j) = false)) (fun i _ => n - (intOf i).toNat)
  case atStart => exact ⟨0, Nat.zero_le _, rfl, rfl, Lib.hid (by omega)⟩
  case round =>
    obtain ⟨k, hk, rfl, rfl, HN⟩ := hrel
    by_cases hlt : k < n
    · have hx := HC.out k hlt
      generalize hxk : xs k = x at hx
      have HX := Lib.hid hxk
      clear hxk
      have hlt' : (k : Int) < n := by omega
      by_cases hp : 0 < x
      · go_wp2
        exact bodyPost_ret (v := .int .i64 (k : Int)) (by simp [results, Try.results64, go_sem]) rfl ⟨by rw [find_upTo _ n k hlt HN.out (by rw [HX.out]; simpa using hp)]; rfl, rfl⟩
      · go_wp2
        exact ⟨⟨k + 1, by omega, by go_num, trivial, Lib.hid (by
          intro j hj
          by_cases e : j = k
          · subst e; rw [HX.out]; simpa using hp
          · exact HN.out j (by omega))⟩, by simp [intOf]; omega⟩
    · go_wp2
      exact bodyPost_ret (v := .int .i64 (-1)) (by simp [results, Try.results64, go_sem]) rfl ⟨by rw [find_none _ n (fun i hi => HN.out i (by omega))]; rfl, rfl⟩

theorem gains_lit (n : Int) (s : Nat) (l : List S46) : ∃ x0 x1 x2 x3 x4 x5 x6 x7 x8 x9 x10 x11 : Int, cellsG n s l l.length = #[.int .i64 x0, .int .i64 x1, .int .i64 x2, .int .i64 x3, .int .i64 x4, .int .i64 x5, .int .i64 x6, .int .i64 x7, .int .i64 x8, .int .i64 x9, .int .i64 x10, .int .i64 x11] ∧ ∀ i, i < 12 → (#[.int .i64 x0, .int .i64 x1, .int .i64 x2, .int .i64 x3, .int .i64 x4, .int .i64 x5, .int .i64 x6, .int .i64 x7, .int .i64 x8, .int .i64 x9, .int .i64 x10, .int .i64 x11] : Array Value)[i]? = some (.int .i64 (gainB n s i l)) := by
  have hcc : cellsG n s l l.length = #[.int .i64 (gainB n s 0 (l.take l.length)), .int .i64 (gainB n s 1 (l.take l.length)), .int .i64 (gainB n s 2 (l.take l.length)), .int .i64 (gainB n s 3 (l.take l.length)), .int .i64 (gainB n s 4 (l.take l.length)), .int .i64 (gainB n s 5 (l.take l.length)), .int .i64 (gainB n s 6 (l.take l.length)), .int .i64 (gainB n s 7 (l.take l.length)), .int .i64 (gainB n s 8 (l.take l.length)), .int .i64 (gainB n s 9 (l.take l.length)), .int .i64 (gainB n s 10 (l.take l.length)), .int .i64 (gainB n s 11 (l.take l.length))] := by
    apply Array.ext'
    simp [cellsG]; rfl
  refine ⟨_, _, _, _, _, _, _, _, _, _, _, _, hcc, fun i hi => ?_⟩
  rw [← hcc, cellsG_at n s l l.length i hi, List.take_length]
/-- What gains comes to, number by number. -/
def GainsPost (n : Int) (s : Nat) (l : List S46) (w : World) (e : Ending) (w' : World) : Prop :=
  ∃ x0 x1 x2 x3 x4 x5 x6 x7 x8 x9 x10 x11 : Int, e = .returned (.agg #[.int .i64 x0, .int .i64 x1, .int .i64 x2, .int .i64 x3, .int .i64 x4, .int .i64 x5, .int .i64 x6, .int .i64 x7, .int .i64 x8, .int .i64 x9, .int .i64 x10, .int .i64 x11]) ∧ Hid (∀ i, i < 12 → (#[.int .i64 x0, .int .i64 x1, .int .i64 x2, .int .i64 x3, .int .i64 x4, .int .i64 x5, .int .i64 x6, .int .i64 x7, .int .i64 x8, .int .i64 x9, .int .i64 x10, .int .i64 x11] : Array Value)[i]? = some (.int .i64 (gainB n s i l))) ∧ Below w.heap.size w w'
theorem gains_post (n : Int) (A : Option Addr) (c m : Nat) (l : List S46) (s : Nat) (w : World) (hg : graphOk n l = true) (hs : s < 4096) (hC : Kd.C k46 w A l.length l) :
    Calls Try.prog 43 #[gv n (.slice A l.length c) m, .int .u64 (s : Int)] w (GainsPost n s l w) := by
  refine (gains_any n A c m l s w hg hs hC).mono ?_
  rintro e w' ⟨rfl, hb⟩
  obtain ⟨x0, x1, x2, x3, x4, x5, x6, x7, x8, x9, x10, x11, hc, h⟩ := gains_lit n s l
  exact ⟨x0, x1, x2, x3, x4, x5, x6, x7, x8, x9, x10, x11, by rw [hc], Lib.hid h, hb⟩

theorem index_at (n c : Nat) (b : Nat) (xs : Nat → Int) (w : World) (r : Option Nat) (y : Int) (hn : n ≤ 12) (hb : b < w.heap.size) (hc : ∀ i, i < n → w.cell? ⟨b, i, none⟩ = some (.int .i64 (xs i))) (hr : ((List.range n).find? fun i => decide (0 < xs i)) = r) (hy : idxOf r = y) :
    Calls Try.prog 64 #[.slice (some ⟨b, 0, none⟩) n c, .func (.func 65) #[] #[]] w fun e w' => e = .returned (.int .i64 y) ∧ w = w' := by
  subst hr hy
  exact index_any n c b xs w hn hb hc

/-- A graph's block, behind a call. -/
theorem three_kept {w1 w2 : World} {u : Nat} {x0 x1 x2 : Value} (Z : Hid (Whole w1 u 52 #[x0, x1, x2])) (hb : Below w1.heap.size w1 w2) :
    w2.cell? ⟨u, 0, none⟩ = some x0 ∧ w2.cell? ⟨u, 1, none⟩ = some x1 ∧ w2.cell? ⟨u, 2, none⟩ = some x2 ∧ u < w2.heap.size ∧ Hid (Whole w2 u 52 #[x0, x1, x2]) := by
  have Z2 := Z.out.below hb Z.out.lt
  exact ⟨Z2.cell 0, Z2.cell 1, Z2.cell 2, Z2.lt, Lib.hid Z2⟩

end Go.Proofs.Ytkefmlhkejoknab.L

/- Climb comes to what belt_Climb.f says. -/
namespace Go.Proofs.Ytkefmlhkejoknab.L
set_option linter.unusedVariables false
set_option linter.unusedSimpArgs false
open Go.RowKit Go.Shelf Go.Proofs.YtkefmlhkejoknabW.PrintWords Go.Proofs.YtkefmlhkejoknabW.PrintLast

set_option maxHeartbeats 2000000 in
theorem belt_Climb.calls (a0 : Int) (A1 : Option Addr) (c1 : Nat) (l1 : List S46) (a2 : ByteArray) (r1 : ByteArray) (r2 r3 : Int) (w : World) (hr1 : Kd.C k46 w A1 l1.length l1) (hc1 : l1.length ≤ c1) (h : belt_Climb.f a0 l1 a2 = some (r1, r2, r3)) :
    Calls Try.prog 36 #[.int .i64 a0, .slice A1 l1.length c1, .string a2] w fun e w' => e = .returned (.tuple #[.string r1, .int .i64 r2, .int .i64 r3]) ∧ Below w.heap.size w w' := by
  have HC := Lib.hid hr1
  rw [belt_Climb.f] at h
  by_cases ha2 : a2.size ≤ 140737488351232
  case neg => rw [if_neg ha2] at h; cases h
  rw [if_pos ha2] at h
  have HF := Lib.hid h
  clear hr1 h
  cases hok : graphOk a0 l1 && sideOk a0 a2
  · have HG := Lib.hid hok
    clear hok
    go_enter Try.func36, Try.ntmps36
    go_wp2_with (go_at_call 41; refine (both_any a0 A1 c1 l1 a2 _ HC.out ha2).mono ?_; rintro e w1 ⟨x, rfl, hx, hb⟩; have hg := HG.out; have HB := Lib.hid hb; clear hx hb)
    go_ret3
    have e1 := HF.out
    rw [HG.out] at e1
    simp only [Bool.false_eq_true, if_false, Option.some.injEq, Prod.mk.injEq] at e1
    obtain ⟨rfl, rfl, rfl⟩ := e1
    exact ⟨rfl, below_alloc HB.out _⟩
  · have HG := Lib.hid hok
    simp only [Bool.and_eq_true] at hok
    obtain ⟨hg, hsd⟩ := hok
    obtain ⟨h0, hn⟩ := graphOk_n hg
    have hl := graphOk_len hg
    have Hg := Lib.hid hg
    have Hs := Lib.hid hsd
    have e1 := HF.out
    rw [HG.out] at e1
    simp only [if_true] at e1
    have HE := Lib.hid e1
    clear hg hsd e1
    go_enter Try.func36, Try.ntmps36
    go_wp2_with (first
      | (go_at_call 41; refine (both_any a0 A1 c1 l1 a2 _ HC.out ha2).mono ?_; rintro e w1 ⟨x, rfl, hx, hb⟩; have hg := HG.out; have HX := Lib.hid ((hx Hg.out Hs.out).1); have HB := Lib.hid hb; clear hx hb))
    have e1 := HE.out
    rw [Option.map_eq_some_iff] at e1
    obtain ⟨rr, hrr, e2⟩ := e1
    simp only [Prod.mk.injEq] at e2
    have HR := Lib.hid hrr
    have H2 := Lib.hid e2
    have hx4 : x < 4096 := by rw [HX.out]; exact numB_lt a0 a2 _ hn h0
    clear hrr e2
    obtain ⟨N, rfl⟩ := Int.eq_ofNat_of_zero_le (show 0 ≤ a0 by omega)
    go_loopw [10, 12] (fun xv fv wr => ∃ (fu s : Nat) (f : Int), 0 ≤ f ∧ f + fu = 4002 ∧ s < 4096 ∧ xv = .int .u64 (s : Int) ∧ fv = .int .i64 f ∧ Hid (climbB N l1 fu s f = some rr) ∧ Below w.heap.size w wr ∧ Whole wr w1.heap.size 52 #[.int .i64 N, .slice A1 l1.length c1, .map (some (w.heap.size + 1 + 1))]) (fun _ fv _ => 4002 - (intOf fv).toNat)
    case atStart => exact ⟨4002, x, 0, by omega, by omega, hx4, rfl, rfl, Lib.hid (by rw [HX.out]; exact HR.out), below_alloc HB.out _, Whole.new _ _ _⟩
    case round =>
      obtain ⟨fu, s, f, hf0, hfu, hs, rfl, rfl, HCL, hB, hZ⟩ := hrel
      have hB0 := HB.out.size
      obtain ⟨fu', rfl⟩ : ∃ fu', fu = fu' + 1 := by
        rcases fu with _ | k
        · exact absurd HCL.out (by simp [climbB])
        · exact ⟨k, rfl⟩
      have hcl := HCL.out
      rw [climbB] at hcl
      have g0 := hZ.cell 0
      have g1 := hZ.cell 1
      have g2 := hZ.cell 2
      simp only [List.getElem?_toArray, List.getElem?_cons_zero, List.getElem?_cons_succ] at g0 g1 g2
      have hltz := hZ.lt
      have HZ := Lib.hid hZ
      have HWB := Lib.hid hB
      have hN : (N : Int).toNat = N := rfl
      cases hv : firstGain N l1 s with
      | none =>
        rw [hv] at hcl
        simp only [Option.some.injEq] at hcl
        subst hcl
        have HV := Lib.hid hv
        clear hv hZ hB
        go_wp2_with (first
          | (go_at_call 43; refine (gains_post N A1 c1 _ l1 s _ Hg.out hs (Kd.C_below HC.out HWB.out)).mono ?_; rintro e w2 ⟨x0, x1, x2, x3, x4, x5, x6, x7, x8, x9, x10, x11, rfl, HI, hb⟩; have hb2 := hb.size; obtain ⟨k0, k1, k2, hltz2, HZ2⟩ := three_kept HZ hb; have HB2 := Lib.hid hb; clear hb)
          | (go_at_call 64; refine (index_at N 12 w2.heap.size (fun i => gainB N s i l1) _ none (-1) (by omega) (by simp) (fun i hi => ((Whole.new w2 89 #[.int .i64 x0, .int .i64 x1, .int .i64 x2, .int .i64 x3, .int .i64 x4, .int .i64 x5, .int .i64 x6, .int .i64 x7, .int .i64 x8, .int .i64 x9, .int .i64 x10, .int .i64 x11]).cell i).trans (HI.out i (by omega))) HV.out rfl).mono ?_; rintro e w3 ⟨rfl, rfl⟩)
          | (go_at_call 63; refine (text_any N _ _ _ _ rfl hn h0 hs).mono ?_; rintro e w3 ⟨rfl, hb⟩; have HB4 := Lib.hid hb; clear hb))
        go_ret3
        obtain ⟨rfl, rfl, rfl⟩ := H2.out
        refine ⟨rfl, ?_⟩
        have q1 := below_then HWB.out HWB.out.size HB2.out
        have q2 := below_alloc q1 (Obj.cells #[.int .i64 x0, .int .i64 x1, .int .i64 x2, .int .i64 x3, .int .i64 x4, .int .i64 x5, .int .i64 x6, .int .i64 x7, .int .i64 x8, .int .i64 x9, .int .i64 x10, .int .i64 x11] 89)
        exact below_then q2 q2.size HB4.out
      | some v =>
        rw [hv] at hcl
        have HV := Lib.hid hv
        have hvn : v < N := by
          have := List.mem_of_find?_eq_some hv
          simpa using this
        have hvn' : (v : Int) < N := by omega
        have hcl : climbB N l1 fu' (s ^^^ 2 ^ ((N : Int) - 1 - (v : Int)).toNat) (f + 1) = some rr := hcl
        have HC2 := Lib.hid hcl
        clear hcl
        have hq := pow_lt12 ((N : Int) - 1 - (v : Int)).toNat (by omega)
        have hbit := fun ev m W h => bit_any N ev m v W h hn (by omega) hvn'
        have hxl : s ^^^ 2 ^ ((N : Int) - 1 - (v : Int)).toNat < 4096 := Nat.xor_lt_two_pow (n := 12) (by omega) (by omega)
        generalize 2 ^ ((N : Int) - 1 - (v : Int)).toNat = q at HC2 hq hbit hxl
        have hu := u64_xor_nat s q (by omega) (by omega)
        generalize s ^^^ q = r at HC2 hu hxl
        have HU := Lib.hid hu
        have HBIT := Lib.hid hbit
        clear hv hZ hB hu hbit
        go_wp2_with (first
          | (go_at_call 43; refine (gains_post N A1 c1 _ l1 s _ Hg.out hs (Kd.C_below HC.out HWB.out)).mono ?_; rintro e w2 ⟨x0, x1, x2, x3, x4, x5, x6, x7, x8, x9, x10, x11, rfl, HI, hb⟩; have hb2 := hb.size; obtain ⟨k0, k1, k2, hltz2, HZ2⟩ := three_kept HZ hb; have HB2 := Lib.hid hb; clear hb)
          | (go_at_call 64; refine (index_at N 12 w2.heap.size (fun i => gainB N s i l1) _ (some v) v (by omega) (by simp) (fun i hi => ((Whole.new w2 89 #[.int .i64 x0, .int .i64 x1, .int .i64 x2, .int .i64 x3, .int .i64 x4, .int .i64 x5, .int .i64 x6, .int .i64 x7, .int .i64 x8, .int .i64 x9, .int .i64 x10, .int .i64 x11]).cell i).trans (HI.out i (by omega))) HV.out rfl).mono ?_; rintro e w3 ⟨rfl, rfl⟩)
          | (go_at_call 66; refine (HBIT.out _ _ _ rfl).mono ?_; rintro e w' ⟨rfl, rfl⟩; have hu := HU.out))
        have q1 := below_then HWB.out HWB.out.size HB2.out
        exact ⟨⟨fu', r, f + 1, by omega, by omega, hxl, rfl, by go_num, HC2, below_alloc (below_alloc q1 _) _, (HZ2.out.alloc _).alloc _⟩, by simp [intOf]; omega⟩

end Go.Proofs.Ytkefmlhkejoknab.L
