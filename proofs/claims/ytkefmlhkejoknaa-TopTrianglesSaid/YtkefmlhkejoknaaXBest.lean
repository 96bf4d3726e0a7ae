import Derived.Test.YtkefmlhkejoknaaL0
import Derived.RangeFuncBox
import Derived.Lib.Hide
import Derived.Deep.RegionHeld3
import Derived.Laws.BitsAllLaws
import Derived.Handy
import Derived.Laws.StructEq
import Derived.Maps.OwnSet
import Derived.RangeFuncNested
import Derived.RangeFuncBound
import Derived.RangeFuncCalls
import Derived.RangeFuncLeaves
import Derived.Shelf.Abstract
import Derived.Shelf.AbstractIn
import Derived.Shelf.RegionOpen
import Derived.OwnWalkIn
import Derived.TacticsInMore
import Derived.LoopNIn
import Derived.LoopIn
import Derived.Sort.QuietIn

/- What the belt functions compute, as plain Lean functions on numbers and lists; no program in sight. -/
namespace Go.Proofs.Ytkefmlhkejoknaa.L
open Go.RowKit

/-- A number is from lo to hi. -/
def inB (a lo hi : Int) : Bool := decide (lo ≤ a) && decide (a ≤ hi)
/-- An edge within the bounds, for n vertices. -/
def edgeOk (n : Int) (e : S49) : Bool := inB e.f1 1 (n - 1) && (inB e.f0 0 (e.f1 - 1) && inB e.f2 (-50) 50)
/-- A list holds an edge with these ends. -/
def hasEdge (l : List S49) (a b : Int) : Bool := l.any fun e => e.f0 == a && e.f1 == b
/-- The first k edges of a list are in order. -/
def edgesOk (n : Int) (l : List S49) : Nat → Bool
  | 0 => true
  | k + 1 => edgesOk n l k && (match l[k]? with | some e => edgeOk n e && !hasEdge (l.take k) e.f0 e.f1 | none => true)
/-- n and l are a graph. -/
def graphOk (n : Int) (l : List S49) : Bool := inB n 1 12 && (decide (l.length ≤ 40) && edgesOk n l l.length)
/-- Two vertices are joined. -/
def joinedB (l : List S49) (a b : Int) : Bool := hasEdge l (if a ≤ b then a else b) (if a ≤ b then b else a)

/-- The vertex v has the character 1 in the side s (its bits from the highest one). -/
def hasB (n : Int) (s : Nat) (v : Int) : Bool := s.testBit (n - 1 - v).toNat
/-- The side cuts the edge. -/
def cutB (n : Int) (s : Nat) (e : S49) : Bool := hasB n s e.f0 != hasB n s e.f1
/-- The value of a side. -/
def valB (n : Int) (s : Nat) : List S49 → Int
  | [] => 0
  | e :: l => (if cutB n s e then e.f2 else 0) + valB n s l
/-- The characters of a side. -/
def charsB (n : Int) (s : Nat) : List UInt8 := (List.range n.toNat).map fun (v : Nat) => if hasB n s (v : Int) then 49 else 48
def textB (n : Int) (s : Nat) : ByteArray := ⟨(charsB n s).toArray⟩
/-- One side more: the first one with the greatest value, this value, how many have it. -/
def bestStep (n : Int) (l : List S49) (want : Nat → Bool) (r : Nat × Int × Int) (s : Nat) : Nat × Int × Int :=
  if want s then (if r.2.2 = 0 ∨ valB n s l > r.2.1 then (s, valB n s l, 1) else if valB n s l = r.2.1 then (r.1, r.2.1, r.2.2 + 1) else r) else r
def bestB (n : Int) (l : List S49) (want : Nat → Bool) : Nat → Nat × Int × Int
  | 0 => (0, 0, 0)
  | k + 1 => bestStep n l want (bestB n l want k) k
def properB (n : Int) (s : Nat) : Bool := !hasB n s 0

def belt_Best.f (n : Int) (l : List S49) : Option (ByteArray × Int × Int) :=
  some (if graphOk n l then (textB n (bestB n l (properB n) (2 ^ n.toNat)).1, (bestB n l (properB n) (2 ^ n.toNat)).2.1, 0) else (⟨#[]⟩, 0, 2))
/-- The first proper side that cuts every edge. -/
def evenB (n : Int) (l : List S49) : Option Nat := (List.range (2 ^ n.toNat)).find? fun s => properB n s && l.all fun e => cutB n s e
def belt_Sides.f (n : Int) (l : List S49) : Option (ByteArray × Int) :=
  some (if graphOk n l then (match evenB n l with | some s => (textB n s, 0) | none => (⟨#[]⟩, 6)) else (⟨#[]⟩, 2))
/-- The cycles of 'size' vertices that go on from p by at most d vertices, as they are visited. -/
def cycB (n : Int) (l : List S49) (size : Nat) : Nat → List Int → List (List Int)
  | 0, p => if p.getD 1 0 > p.getLastD 0 || !joinedB l (p.headD 0) (p.getLastD 0) then [] else [p]
  | d + 1, p => ((List.range (n - (p.headD 0 + 1)).toNat).map fun (i : Nat) => p.headD 0 + 1 + (i : Int)).flatMap fun v =>
    if joinedB l (p.getLastD 0) v && !p.contains v then cycB n l size d (p ++ [v]) else []
def cyclesB (n : Int) (l : List S49) (size : Nat) : List (List Int) := (List.range n.toNat).flatMap fun (v : Nat) => cycB n l size (size - 1) [(v : Int)]
/-- The odd lengths from 3 to n. -/
def oddSizes (n : Int) : List Nat := (List.range ((n.toNat - 1) / 2)).map fun i => 2 * i + 3
def belt_Odd.f (n : Int) (l : List S49) : Option (List Int × Int) :=
  some (if graphOk n l then (match evenB n l with | some _ => ([], 6) | none => (((oddSizes n).flatMap fun k => cyclesB n l k).headD [], 0)) else ([], 2))

/-- The ends of the edges of a cycle. -/
def endsB (c : List Int) : List (Int × Int) := (List.range c.length).map fun i =>
  let v := c.getD i 0; let w := c.getD ((i + 1) % c.length) 0; (if v ≤ w then v else w, if v ≤ w then w else v)
end Go.Proofs.Ytkefmlhkejoknaa.L

/- Words on memory: a block that is known whole. -/
namespace Go.Proofs.Ytkefmlhkejoknaa.L
set_option linter.unusedVariables false
open Go.RowKit

/-- Block g of w is the row cs of cells, elements of type t, none of them frozen. -/
def Whole (w : World) (g : Nat) (t : TypeId) (cs : Array Value) : Prop := w.heap[g]? = some (.cells cs t (0, 0))
section
variable {w w' : World} {g : Nat} {t : TypeId} {cs : Array Value}
theorem Whole.lt (h : Whole w g t cs) : g < w.heap.size := (Array.getElem?_eq_some_iff.1 h).1
theorem Whole.cell (h : Whole w g t cs) (i : Nat) : w.cell? ⟨g, i, none⟩ = cs[i]? := by
  unfold World.cell?; rw [show w.heap[g]? = _ from h]; rfl
theorem Whole.frozen (h : Whole w g t cs) (i : Nat) : w.frozen? ⟨g, i, none⟩ = false := by
  unfold World.frozen?; rw [show w.heap[g]? = _ from h]; simp
theorem Whole.new (w : World) (t : TypeId) (cs : Array Value) : Whole (w.alloc (.cells cs t)) w.heap.size t cs := World.alloc_heap_new w _
theorem Whole.alloc (h : Whole w g t cs) (o : Obj) : Whole (w.alloc o) g t cs := (Below.heap_alloc w o g h.lt).trans h
theorem Whole.drew (h : Whole w g t cs) : Whole w.drew g t cs := h
theorem Whole.below {B : Nat} (h : Whole w g t cs) (hb : Below B w w') (hg : g < B) : Whole w' g t cs := (hb.block g hg).trans h
theorem Whole.far (h : Whole w g t cs) {p : Addr} (hp : g ≠ p.block) (u : Value) : Whole (w.setCell p u) g t cs := (Below.heap_setCell w p u g hp).trans h
theorem Whole.set (h : Whole w g t cs) (i : Nat) (u : Value) : Whole (w.setCell ⟨g, i, none⟩ u) g t (cs.setIfInBounds i u) := by
  unfold Whole at h ⊢
  show (w.heap.modify g _)[g]? = _
  obtain ⟨hlt, hk⟩ := Array.getElem?_eq_some_iff.1 h
  rw [Array.getElem?_eq_getElem (by rw [Array.size_modify]; exact hlt), Array.getElem_modify_self, hk]
  rfl
theorem Whole.grown {row : Option Nat} (h : Whole w g t cs) (hb : w.grownBy w' row) (hg : some g ≠ row) : Whole w' g t cs := (hb.block g h.lt hg).trans h
end
theorem Whole.putObj {w : World} {g : Nat} {t : TypeId} {cs : Array Value} (h : Whole w g t cs) {r : Nat} (hr : g ≠ r) (o : Obj) : Whole (w.putObj r o) g t cs := (World.putObj_heap_other hr).trans h
theorem Below.putObj {B : Nat} {a w : World} (h : Below B a w) {r : Nat} (hr : B ≤ r) (o : Obj) : Below B a (w.putObj r o) :=
  h.trans ⟨rfl, rfl, rfl, by simp, fun k hk => World.putObj_heap_other (by omega)⟩
theorem Below.setAt {B : Nat} {a w : World} (h : Below B a w) {b : Nat} (hb : B ≤ b) (i : Nat) (u : Value) : Below B a (w.setCell ⟨b, i, none⟩ u) := h.setCell (p := ⟨b, i, none⟩) hb u
/-- What lay below stays: cells and marks. -/
theorem below_cells {W W1 : World} (hb : Below W.heap.size W W1) : (∀ b o, b < W.heap.size → W1.cell? ⟨b, o, none⟩ = W.cell? ⟨b, o, none⟩) ∧ (∀ b o, b < W.heap.size → W1.frozen? ⟨b, o, none⟩ = W.frozen? ⟨b, o, none⟩) :=
  ⟨fun b o h => hb.cell (p := ⟨b, o, none⟩) h, fun b o h => hb.frozen (p := ⟨b, o, none⟩) h⟩

end Go.Proofs.Ytkefmlhkejoknaa.L

/- Walks of the small methods of a graph: has, bit, proper, within. -/
namespace Go.Proofs.Ytkefmlhkejoknaa.L
set_option linter.unusedVariables false
set_option linter.unusedSimpArgs false
open Go.RowKit Go.Proofs.YtkefmlhkejoknaaW.PrintWords Go.Proofs.YtkefmlhkejoknaaW.PrintLast

/-- A graph as a value; as the block that it is boxed in. -/
abbrev gv (n : Int) (ev : Value) (m : Nat) : Value := .agg #[.int .i64 n, ev, .map (some m)]
abbrev gbox (n : Int) (ev : Value) (m : Nat) : Obj := .cells #[.int .i64 n, ev, .map (some m)] 86

theorem u64_and_one (x : Nat) (hx : x < 18446744073709551616) : bits .and .u64 (x : Int) 1 = ((x % 2 : Nat) : Int) := by
  show IntKind.u64.wrap ((BitVec.ofInt 64 (x : Int) &&& BitVec.ofInt 64 1).toNat : Int) = _
  have h1 : (BitVec.ofInt 64 (x : Int)).toNat = x := by
    rw [BitVec.ofInt_natCast, BitVec.toNat_ofNat]; exact Nat.mod_eq_of_lt hx
  have h2 : (BitVec.ofInt 64 1).toNat = 1 := by decide
  rw [BitVec.toNat_and, h1, h2, Nat.and_one_is_mod, IntKind.wrap_u64]
  omega
theorem has_bit (s k : Nat) (hs : s < 4096) : (bits BinOp.and IntKind.u64 ((s : Int) / 2 ^ k) 1 == 1) = s.testBit k := by
  have e : ((s : Int) / 2 ^ k) = ((s / 2 ^ k : Nat) : Int) := by simp
  have hlt : s / 2 ^ k < 18446744073709551616 := Nat.lt_of_le_of_lt (Nat.div_le_self _ _) (by omega)
  rw [e, u64_and_one _ hlt, Nat.testBit_eq_decide_div_mod_eq, Bool.eq_iff_iff]
  simp only [beq_iff_eq, decide_eq_true_eq]
  omega

set_option maxHeartbeats 400000 in
theorem has_any (n : Int) (ev : Value) (m : Nat) (s : Nat) (v : Int) (w : World) (hev : ev.oneCell' = true) (hn : n ≤ 12) (hv : 0 ≤ v) (hvn : v < n) (hs : s < 4096) :
    Calls Try.prog 79 #[gv n ev m, .int .u64 (s : Int), .int .i64 v] w fun e w' => e = .returned (.bool (hasB n s v)) ∧ w.alloc (gbox n ev m) = w' := by
  have HB := Lib.hid (has_bit s (n - 1 - v).toNat hs)
  go_enter Try.func79, Try.ntmps79
  go_wp2
  go_ret
  exact ⟨congrArg (fun b => Ending.returned (Value.bool b)) HB.out, rfl⟩

set_option maxHeartbeats 400000 in
theorem proper_any (n : Int) (ev : Value) (m : Nat) (s : Nat) (w : World) (hev : ev.oneCell' = true) (hn : n ≤ 12) (h0 : 1 ≤ n) (hs : s < 4096) :
    Calls Try.prog 66 #[gv n ev m, .int .u64 (s : Int)] w fun e w' => e = .returned (.bool (properB n s)) ∧ (w.alloc (gbox n ev m)).alloc (gbox n ev m) = w' := by
  go_enter Try.func66, Try.ntmps66
  go_wp2_with (go_at_call 79; refine (has_any n ev m s 0 _ hev hn (by omega) (by omega) hs).mono ?_; rintro e w' ⟨rfl, rfl⟩)
  go_ret
  exact ⟨rfl, rfl⟩

end Go.Proofs.Ytkefmlhkejoknaa.L

/- The walk of (graph).value: the value of a side. -/
namespace Go.Proofs.Ytkefmlhkejoknaa.L
set_option linter.unusedVariables false
set_option linter.unusedSimpArgs false
open Go.RowKit Go.Proofs.YtkefmlhkejoknaaW.PrintWords Go.Proofs.YtkefmlhkejoknaaW.PrintLast

/-- Each edge of the list is within the bounds. -/
def EdgesIn (n : Int) (l : List S49) : Prop := ∀ k, k < l.length → 0 ≤ (rd_T49 l (k : Int)).f0 ∧ (rd_T49 l (k : Int)).f0 < n ∧ 0 ≤ (rd_T49 l (k : Int)).f1 ∧ (rd_T49 l (k : Int)).f1 < n ∧ -50 ≤ (rd_T49 l (k : Int)).f2 ∧ (rd_T49 l (k : Int)).f2 ≤ 50

theorem valB_append (n : Int) (s : Nat) (a b : List S49) : valB n s (a ++ b) = valB n s a + valB n s b := by
  induction a with
  | nil => simp [valB]
  | cons e a ih => simp only [List.cons_append, valB, ih]; omega
theorem valB_take (n : Int) (s : Nat) (l : List S49) (k : Nat) (hk : k < l.length) : valB n s (l.take (k + 1)) = valB n s (l.take k) + (if cutB n s (rd_T49 l (k : Int)) then (rd_T49 l (k : Int)).f2 else 0) := by
  rw [List.take_succ_eq_append_getElem hk, valB_append]
  simp [valB, rd_T49, List.getElem?_eq_getElem hk]
theorem valB_bound (n : Int) (s : Nat) (l : List S49) (h : EdgesIn n l) (k : Nat) (hk : k ≤ l.length) : - (50 * (k : Int)) ≤ valB n s (l.take k) ∧ valB n s (l.take k) ≤ 50 * (k : Int) := by
  induction k with
  | zero => simp [valB]
  | succ k ih =>
    have := ih (by omega)
    have hb := h k (by omega)
    rw [valB_take n s l k (by omega)]
    split <;> omega

set_option maxHeartbeats 1000000 in
theorem value_any (n : Int) (A : Option Addr) (c m : Nat) (l : List S49) (s : Nat) (w : World) (hn : n ≤ 12) (h0 : 1 ≤ n) (hs : s < 4096) (hC : Kd.C k49 w A l.length l) (hl : l.length ≤ 40) (hE : EdgesIn n l) :
    Calls Try.prog 78 #[gv n (.slice A l.length c) m, .int .u64 (s : Int)] w fun e w' => e = .returned (.int .i64 (valB n s l)) ∧ Below w.heap.size w w' := by
  have HC := Lib.hid hC
  have HE := Lib.hid hE
  clear hC hE
  go_enter Try.func78, Try.ntmps78
  go_wp2
  go_loopw [5, 11] (fun v i wr => ∃ k : Nat, k ≤ l.length ∧ i = .int .i64 k ∧ v = .int .i64 (valB n s (l.take k)) ∧ Below w.heap.size w wr ∧ Whole wr w.heap.size 86 #[.int .i64 n, .slice A l.length c, .map (some m)]) (fun _ i _ => l.length - (intOf i).toNat)
  case atStart => exact ⟨0, Nat.zero_le _, rfl, by simp [valB], (Below.refl _ _).alloc (Nat.le_refl _) _, Whole.new _ _ _⟩
  case round =>
    obtain ⟨k, hk, rfl, rfl, hB, hG⟩ := hrel
    have bnd_val := valB_bound n s l HE.out k hk
    by_cases hlt : k < l.length
    · obtain ⟨ad, rfl, hc0, hc1, hc2⟩ := at_T49 (Kd.C_below HC.out hB) (k : Int) (by omega) (by omega)
      simp only [Int.toNat_natCast] at hc0 hc1 hc2
      have HG := Lib.hid hG
      have g0 := hG.cell 0
      have g1 := hG.cell 1
      have g2 := hG.cell 2
      simp only [List.getElem?_toArray, List.getElem?_cons_zero, List.getElem?_cons_succ] at g0 g1 g2
      have HB := Lib.hid hB
      clear hG hB
      have hlt' := HG.out.lt
      go_wp2
      obtain ⟨W1, hW1⟩ : ∃ W1, wr.alloc (Obj.cells #[Value.int IntKind.i64 (rd_T49 l ↑k).f0, Value.int IntKind.i64 (rd_T49 l ↑k).f1, Value.int IntKind.i64 (rd_T49 l ↑k).f2] 49) = W1 := ⟨_, rfl⟩
      have G1 := HG.out.alloc (Obj.cells #[Value.int IntKind.i64 (rd_T49 l ↑k).f0, Value.int IntKind.i64 (rd_T49 l ↑k).f1, Value.int IntKind.i64 (rd_T49 l ↑k).f2] 49)
      have E1 := Whole.new wr 49 #[Value.int IntKind.i64 (rd_T49 l ↑k).f0, Value.int IntKind.i64 (rd_T49 l ↑k).f1, Value.int IntKind.i64 (rd_T49 l ↑k).f2]
      have B1 := HB.out.alloc HB.out.size (Obj.cells #[Value.int IntKind.i64 (rd_T49 l ↑k).f0, Value.int IntKind.i64 (rd_T49 l ↑k).f1, Value.int IntKind.i64 (rd_T49 l ↑k).f2] 49)
      rw [hW1] at G1 E1 B1 ⊢
      clear hW1 g0 g1 g2 hc0 hc1 hc2
      obtain ⟨e0, e1, e2, e3, e4, e5⟩ := HE.out k hlt
      have g0 := G1.cell 0
      have g1 := G1.cell 1
      have g2 := G1.cell 2
      have x0 := E1.cell 0
      have x1 := E1.cell 1
      have x2 := E1.cell 2
      simp only [List.getElem?_toArray, List.getElem?_cons_zero, List.getElem?_cons_succ] at g0 g1 g2 x0 x1 x2
      have hlt1 := E1.lt
      go_region_held3 (fun w' => w'.cell? ⟨w.heap.size, 0, none⟩ = some (.int .i64 n) ∧ w'.cell? ⟨w.heap.size, 1, none⟩ = some (.slice (some ad) l.length c) ∧ w'.cell? ⟨w.heap.size, 2, none⟩ = some (.map (some m)) ∧ w'.cell? ⟨wr.heap.size, 0, none⟩ = some (.int .i64 (rd_T49 l ↑k).f0) ∧ w'.cell? ⟨wr.heap.size, 1, none⟩ = some (.int .i64 (rd_T49 l ↑k).f1)) (go_keep)
        (first | (go_at_call 79; refine (has_any n _ m s _ _ rfl hn ?_ ?_ hs).mono ?_; (first | exact e0 | exact e2); (first | exact e1 | exact e3); rintro e w' ⟨rfl, rfl⟩))
      have HT := Lib.hid (valB_take n s l k hlt)
      have B3 : Below w.heap.size w ((W1.alloc (gbox n (.slice (some ad) l.length c) m)).alloc (gbox n (.slice (some ad) l.length c) m)).drew := ((B1.alloc B1.size _).alloc (by have := B1.size; simp; omega) _).drew
      have G3 : Whole ((W1.alloc (gbox n (.slice (some ad) l.length c) m)).alloc (gbox n (.slice (some ad) l.length c) m)).drew w.heap.size 86 #[.int .i64 n, .slice (some ad) l.length c, .map (some m)] := ((G1.alloc _).alloc _).drew
      cases hcut : (!(hasB n s (rd_T49 l ↑k).f0 == hasB n s (rd_T49 l ↑k).f1))
      · have hc : cutB n s (rd_T49 l ↑k) = false := hcut
        have HT' := HT.out
        rw [hc, if_neg (by decide)] at HT'
        have HV := Lib.hid HT'
        clear HT HT' hc
        go_wp2
        exact ⟨⟨k + 1, by omega, by go_num, by rw [HV.out]; go_num, B3, G3⟩, by simp [intOf]; omega⟩
      · have hc : cutB n s (rd_T49 l ↑k) = true := hcut
        have HT' := HT.out
        rw [hc, if_pos rfl] at HT'
        have HV := Lib.hid HT'
        clear HT HT' hc
        go_wp2
        exact ⟨⟨k + 1, by omega, by go_num, by rw [HV.out], B3, G3⟩, by simp [intOf]; omega⟩
    · obtain rfl : k = l.length := by omega
      go_wp2
      go_ret
      exact ⟨by simp, hB⟩

end Go.Proofs.Ytkefmlhkejoknaa.L

/- The walk of (graph).text: a side as a string. -/
namespace Go.Proofs.Ytkefmlhkejoknaa.L
set_option linter.unusedVariables false
set_option linter.unusedSimpArgs false
open Go.RowKit Go.Proofs.YtkefmlhkejoknaaW.PrintWords Go.Proofs.YtkefmlhkejoknaaW.PrintLast

theorem infoU8 : (Try.prog.info? 5).map (fun i => (i.zero, i.size, i.bytes)) = some (some (.int .u8 0), 1, 1) := by kernel_rfl

/-- The numbers in the row, k characters being written. -/
def numsT (n : Nat) (s k : Nat) : List Int := (List.range n).map fun i => if i < k then (if hasB n s (i : Int) then 49 else 48) else 0
def cellsT (n : Nat) (s k : Nat) : Array Value := ((numsT n s k).map (Value.int .u8)).toArray
theorem numsT_length (n s k : Nat) : (numsT n s k).length = n := by simp [numsT]
theorem numsT_at (n s k i : Nat) (hi : i < n) : (numsT n s k)[i]? = some (if i < k then (if hasB n s (i : Int) then 49 else 48) else 0) := by
  simp [numsT, hi]
theorem cellsT_at (n s k i : Nat) (hi : i < n) : (cellsT n s k)[i]? = some (.int .u8 (if i < k then (if hasB n s (i : Int) then 49 else 48) else 0)) := by
  simp [cellsT, numsT, hi]
theorem cellsT_zero (n s : Nat) : madeCells (Value.int .u8 0).cells (n * 1) = cellsT n s 0 := by
  apply Array.ext'
  show (madeCells #[Value.int .u8 0] (n * 1)).toList = _
  rw [toList_madeCells_one]
  apply List.ext_getElem?
  intro i
  simp [cellsT, numsT, List.getElem?_replicate]
  split <;> simp_all
theorem cellsT_set (n s k : Nat) (hk : k < n) (x : Int) (hx : x = if hasB n s (k : Int) then 49 else 48) (y : Int) : ((cellsT n s k).setIfInBounds k (.int .u8 y)).setIfInBounds k (.int .u8 x) = cellsT n s (k + 1) := by
  subst hx
  apply Array.ext_getElem?
  intro i
  rcases Nat.lt_or_ge i n with hi | hi
  · rw [cellsT_at n s (k + 1) i hi]
    by_cases e : k = i
    · subst e
      rw [Array.getElem?_setIfInBounds_self_of_lt (by simp [cellsT, numsT, hk])]
      simp
    · rw [Array.getElem?_setIfInBounds_ne e, Array.getElem?_setIfInBounds_ne e, cellsT_at n s k i hi]
      have : i < k ↔ i < k + 1 := by omega
      simp only [this]
  · rw [Array.getElem?_eq_none (by simp [cellsT, numsT, hi]), Array.getElem?_eq_none (by simp [cellsT, numsT, hi])]
theorem cellsT_set1 (n s k : Nat) (hk : k < n) (x : Int) (hx : x = if hasB n s (k : Int) then 49 else 48) : (cellsT n s k).setIfInBounds k (.int .u8 x) = cellsT n s (k + 1) := by
  rw [← cellsT_set n s k hk x hx 0]
  apply Array.ext_getElem?
  intro i
  by_cases e : k = i
  · subst e
    rw [Array.getElem?_setIfInBounds_self_of_lt (by simp [cellsT, numsT, hk]), Array.getElem?_setIfInBounds_self_of_lt (by simp [cellsT, numsT, hk])]
  · rw [Array.getElem?_setIfInBounds_ne e, Array.getElem?_setIfInBounds_ne e, Array.getElem?_setIfInBounds_ne e]
theorem text_of (n s : Nat) : strOfNums (numsT n s n) = textB n s := by
  unfold strOfNums textB charsB numsT
  congr 2
  apply List.ext_getElem?
  intro i
  rcases Nat.lt_or_ge i n with hi | hi
  · simp [hi]
    split <;> rfl
  · simp [hi]

set_option maxHeartbeats 1000000 in
theorem text_any (n : Int) (ev : Value) (m : Nat) (s : Nat) (w : World) (hev : ev.oneCell' = true) (hn : n ≤ 12) (h0 : 1 ≤ n) (hs : s < 4096) :
    Calls Try.prog 67 #[gv n ev m, .int .u64 (s : Int)] w fun e w' => e = .returned (.string (textB n s)) ∧ Below w.heap.size w w' := by
  obtain ⟨N, rfl⟩ : ∃ N : Nat, n = (N : Int) := ⟨n.toNat, by omega⟩
  obtain ⟨i5, hi5, hz5, hs5, hb5⟩ := info_parts infoU8
  have hmk := fun W : World => run_make W 114 5 i5 _ Try.underlying114 hi5 hz5 .i64 .i64 (N : Int) (N : Int) (by omega) (Int.le_refl _) (by rw [hb5]; omega) (by omega)
  simp only [Int.toNat_natCast, hs5] at hmk
  have hmk2 : ∀ W : World, (Instr.makeSlice 114 (.int .i64 (N : Int)) (.int .i64 (N : Int))).run Try.prog W = .ok (.slice (some ⟨W.heap.size, 0, none⟩) N N) (W.alloc (.cells (cellsT N s 0) 5)) := fun W => by rw [hmk W, cellsT_zero N s]
  clear hmk hi5 hz5 hs5 hb5
  go_enter Try.func67, Try.ntmps67
  go_wp2
  go_loopw [12] (fun i wr => ∃ k : Nat, k ≤ N ∧ i = .int .i64 k ∧ Below w.heap.size w wr ∧ Whole wr w.heap.size 86 #[.int .i64 (N : Int), ev, .map (some m)] ∧ Whole wr (w.heap.size + 1) 5 (cellsT N s k)) (fun i _ => N - (intOf i).toNat)
  case atStart => exact ⟨0, Nat.zero_le _, rfl, ((Below.refl _ _).alloc (Nat.le_refl _) _).alloc (by simp) _, (Whole.new _ _ _).alloc _, by have := Whole.new (w.alloc (gbox N ev m)) 5 (cellsT N s 0); simpa using this⟩
  case round =>
    obtain ⟨k, hk, rfl, hB, hG, hT⟩ := hrel
    have hlt' := hT.lt
    by_cases hlt : k < N
    · have g0 := hG.cell 0
      have g1 := hG.cell 1
      have g2 := hG.cell 2
      simp only [List.getElem?_toArray, List.getElem?_cons_zero, List.getElem?_cons_succ] at g0 g1 g2
      have t0 := (hT.cell k).trans (cellsT_at N s k k hlt)
      have f0 := hT.frozen k
      have S1 := ((hT.set k (.int .u8 48)).alloc (gbox N ev m))
      have S2 := (((hT.set k (.int .u8 48)).set k (.int .u8 49)).alloc (gbox N ev m))
      have hmne : w.heap.size ≠ w.heap.size + 1 := by omega
      have B1 := ((hB.setCell (p := ⟨w.heap.size + 1, k, none⟩) (by simp) (.int .u8 48)).alloc (by simpa [World.setCell] using hB.size) (gbox N ev m))
      have B2 := (((hB.setCell (p := ⟨w.heap.size + 1, k, none⟩) (by simp) (.int .u8 48)).setCell (p := ⟨w.heap.size + 1, k, none⟩) (by simp) (.int .u8 49)).alloc (by simpa [World.setCell] using hB.size) (gbox N ev m))
      have G1 := (hG.far (p := ⟨w.heap.size + 1, k, none⟩) hmne (.int .u8 48)).alloc (gbox N ev m)
      have G2 := ((hG.far (p := ⟨w.heap.size + 1, k, none⟩) hmne (.int .u8 48)).far (p := ⟨w.heap.size + 1, k, none⟩) hmne (.int .u8 49)).alloc (gbox N ev m)
      have T1 : hasB N s (k : Int) = false → (cellsT N s k).setIfInBounds k (.int .u8 48) = cellsT N s (k + 1) := fun h => cellsT_set1 N s k hlt 48 (by simp [h])
      have T2 : hasB N s (k : Int) = true → ((cellsT N s k).setIfInBounds k (.int .u8 48)).setIfInBounds k (.int .u8 49) = cellsT N s (k + 1) := fun h => cellsT_set N s k hlt 49 (by simp [h]) 48
      have H1 := Lib.hid S1
      have H2 := Lib.hid S2
      have H3 := Lib.hid T1
      have H4 := Lib.hid T2
      have H5 := Lib.hid G1
      have H6 := Lib.hid G2
      have H7 := Lib.hid B1
      have H8 := Lib.hid B2
      clear S1 S2 T1 T2 G1 G2 hT hG B1 B2 hB
      cases hb : hasB N s (k : Int)
      · have S1 := H1.out
        rw [H3.out hb] at S1
        go_wp2_with (go_at_call 79; refine (has_any N ev m s k _ hev hn (by omega) (by omega) hs).mono ?_; rintro e w' ⟨rfl, rfl⟩)
        exact ⟨⟨k + 1, by omega, by go_num, H7.out, H5.out, S1⟩, by simp [intOf]; omega⟩
      · have S2 := H2.out
        rw [H4.out hb] at S2
        go_wp2_with (go_at_call 79; refine (has_any N ev m s k _ hev hn (by omega) (by omega) hs).mono ?_; rintro e w' ⟨rfl, rfl⟩)
        exact ⟨⟨k + 1, by omega, by go_num, H8.out, H6.out, S2⟩, by simp [intOf]; omega⟩
    · obtain rfl : k = N := by omega
      have hcv := run_convert_bytes_arg (P := Try.prog) wr 114 5 Try.underlying114 Try.underlying5 (w.heap.size + 1) 0 k k (numsT k s k) (numsT_length _ _ _) (fun i hi => by
        rw [Nat.zero_add, hT.cell i, cellsT_at k s k i hi, List.getD_eq_getElem?_getD, numsT_at k s k i hi]; rfl) 9 Try.underlying9
      rw [text_of] at hcv
      go_wp2
      go_ret
      exact ⟨rfl, hB⟩

end Go.Proofs.Ytkefmlhkejoknaa.L

/- The map of a graph: what its block holds, and what a look-up and a store do. -/
namespace Go.Proofs.Ytkefmlhkejoknaa.L
set_option linter.unusedVariables false
set_option linter.unusedSimpArgs false
open Go.RowKit Go.Proofs.YtkefmlhkejoknaaW.PrintWords Go.Proofs.YtkefmlhkejoknaaW.PrintLast

abbrev pairV (a b : Int) : Value := .agg #[.int .i64 a, .int .i64 b]
/-- The entry of an edge, the i-th one. -/
def entB (e : S49) (i : Nat) : MapEntry := { key := pairV e.f0 e.f1, val := .int .i64 e.f2, born := i }
def entsB (l : List S49) : Array MapEntry := (l.mapIdx fun i e => entB e i).toArray
/-- Block m of w is the map of the edges l. -/
def MapIs (w : World) (m : Nat) (l : List S49) : Prop := w.heap[m]? = some (.map (entsB l) l.length)
section
variable {w w' : World} {m : Nat} {l : List S49}
theorem MapIs.lt (h : MapIs w m l) : m < w.heap.size := (Array.getElem?_eq_some_iff.1 h).1
theorem MapIs.alloc (h : MapIs w m l) (o : Obj) : MapIs (w.alloc o) m l := (Below.heap_alloc w o m h.lt).trans h
theorem MapIs.drew (h : MapIs w m l) : MapIs w.drew m l := h
theorem MapIs.below {B : Nat} (h : MapIs w m l) (hb : Below B w w') (hg : m < B) : MapIs w' m l := (hb.block m hg).trans h
theorem MapIs.setCell (h : MapIs w m l) (p : Addr) (u : Value) : MapIs (w.setCell p u) m l := by
  unfold MapIs at h ⊢
  by_cases e : m = p.block
  · subst e
    show (w.heap.modify p.block _)[p.block]? = _
    obtain ⟨hlt, hk⟩ := Array.getElem?_eq_some_iff.1 h
    rw [Array.getElem?_eq_getElem (by rw [Array.size_modify]; exact hlt), Array.getElem_modify_self, hk]
  · exact (Below.heap_setCell w p u m e).trans h
theorem MapIs.new (w : World) : MapIs (w.alloc (.map #[] 0)) w.heap.size [] := World.alloc_heap_new w _
end

theorem fields128 : Try.prog.underlying 128 = some (.struct (Try.prog.fieldsOf 128)) := by kernel_rfl
theorem stood128 : Try.prog.stoodInHeld 128 = false := by kernel_rfl
theorem equal_pair (a b c d : Int) (w : World) : (Op.equal 128 (pairV a b) (pairV c d)).run Try.prog w = .ok (a == c && b == d) w := by
  have u3 := Try.underlying3
  have a3 := Try.isAgg3
  have z3 := Try.sizeOf3
  rw [Op.equal, Op.maxDepth, show (10000 : Nat) = 9999 + 1 from rfl, run_equalIn_struct w 9999 128 _ _ fields128 stood128]
  simp only [Program.fieldsOf, Try.underlying128]
  go_simp
  by_cases h1 : a = c <;> by_cases h2 : b = d <;> simp [h1, h2]
theorem checkKey_pair (b : Bool) (x y : Int) (w : World) : (Instr.checkKey b 10000 128 (pairV x y)).run Try.prog w = .ok () w := by kernel_rfl

/-- The first entry with a key. -/
def findB (a b : Int) : List S49 → Nat → Option (Nat × Value)
  | [], _ => none
  | e :: l, i => if (a == e.f0 && b == e.f1) = true then some (i, .int .i64 e.f2) else findB a b l (i + 1)
theorem findB_some (a b : Int) (l : List S49) : ∀ i, (findB a b l i = none ∧ hasEdge l a b = false) ∨ ∃ j x, findB a b l i = some (j, .int .i64 x) ∧ hasEdge l a b = true := by
  induction l with
  | nil => exact fun i => .inl ⟨rfl, rfl⟩
  | cons e l ih =>
    intro i
    unfold findB
    by_cases h : (a == e.f0 && b == e.f1) = true
    · refine .inr ⟨i, e.f2, by rw [if_pos h], ?_⟩
      simp only [Bool.and_eq_true, beq_iff_eq] at h
      simp [hasEdge, h.1, h.2]
    · rw [if_neg h]
      have h' : (e.f0 == a && e.f1 == b) = false := by
        rw [Bool.eq_false_iff]
        intro hh
        simp only [Bool.and_eq_true, beq_iff_eq] at h hh
        exact h ⟨hh.1.symm, hh.2.symm⟩
      rcases ih (i + 1) with ⟨h1, h2⟩ | ⟨j, x, h1, h2⟩
      · exact .inl ⟨h1, by unfold hasEdge at h2 ⊢; rw [List.any_cons, h', h2]; rfl⟩
      · exact .inr ⟨j, x, h1, by unfold hasEdge at h2 ⊢; rw [List.any_cons, h2, Bool.or_true]⟩
theorem run_findAsking (a b : Int) (w : World) : ∀ (l : List S49) (off i : Nat), (Instr.findAsking 128 (pairV a b) (l.mapIdx fun j e => entB e (off + j)) i).run Try.prog w = .ok (findB a b l i) w := by
  intro l
  induction l with
  | nil => intro off i; rfl
  | cons e l ih =>
    intro off i
    simp only [List.mapIdx_cons, Instr.findAsking, Sem.run_bind]
    have : (entB e (off + 0)).key = pairV e.f0 e.f1 := rfl
    rw [this, equal_pair]
    simp only [Result.andThen_ok]
    unfold findB
    by_cases h : (a == e.f0 && b == e.f1) = true
    · rw [if_pos h, if_pos h]; rfl
    · rw [if_neg h, if_neg h]
      have e1 : (fun (j : Nat) (x : S49) => entB x (off + (j + 1))) = fun j x => entB x (off + 1 + j) := by funext j x; rw [show off + (j + 1) = off + 1 + j from by omega]
      rw [e1]
      exact ih (off + 1) (i + 1)
theorem entsB_toList (l : List S49) : (entsB l).toList = l.mapIdx fun j e => entB e (0 + j) := by
  unfold entsB
  simp
theorem run_findKey (a b : Int) (l : List S49) (w : World) : (Instr.findKey 128 (pairV a b) (entsB l).toList).run Try.prog w = .ok (findB a b l 0) w := by
  unfold Instr.findKey
  simp only [Sem.run_bind, run_underlying Try.underlying128, Result.andThen_ok]
  cases l with
  | nil => rfl
  | cons e l =>
    have hn : ∀ d, Instr.findNow (.struct d) (pairV a b) (entsB (e :: l)).toList 0 = none := fun d => by
      rw [entsB_toList, List.mapIdx_cons]; rfl
    rw [hn, entsB_toList]
    exact run_findAsking a b w (e :: l) 0 0
theorem lookup_pair {w : World} {m : Nat} {l : List S49} (h : MapIs w m l) (a b : Int) : ∃ x : Int, (Instr.lookup 84 (.map (some m)) (pairV a b) true).run Try.prog w = .ok (.tuple #[.int .i64 x, .bool (hasEdge l a b)]) w := by
  have hz : (zeroValue 3).run Try.prog w = .ok (.int .i64 0) w := by kernel_rfl
  have hg : (getObj m).run Try.prog w = .ok (.map (entsB l) l.length) w := by
    simp [getObj, Sem.run, show w.heap[m]? = _ from h]
  have hk := checkKey_pair (entsB l).isEmpty a b w
  have hf := run_findKey a b l w
  rcases findB_some a b l 0 with ⟨h1, h2⟩ | ⟨j, x, h1, h2⟩
  · refine ⟨0, ?_⟩
    rw [h1] at hf
    simp only [Instr.lookup, Sem.run_bind, run_underlying Try.underlying84, Result.andThen_ok, hg, Sem.run_pure, hk, hf, hz, h2, if_true]
  · refine ⟨x, ?_⟩
    rw [h1] at hf
    simp only [Instr.lookup, Sem.run_bind, run_underlying Try.underlying84, Result.andThen_ok, hg, Sem.run_pure, hk, hf, h2, if_true]
theorem entsB_push (l : List S49) (e : S49) : (entsB l).push { key := pairV e.f0 e.f1, val := .int .i64 e.f2, born := l.length } = entsB (l ++ [e]) := by
  apply Array.ext'
  simp [entsB, List.mapIdx_append, entB]
theorem update_pair {w : World} {m : Nat} {l : List S49} (h : MapIs w m l) (e : S49) (hno : hasEdge l e.f0 e.f1 = false) :
    (Instr.mapUpdate 84 (.map (some m)) (pairV e.f0 e.f1) (.int .i64 e.f2)).run Try.prog w = .ok () (w.putObj m (.map (entsB (l ++ [e])) (l ++ [e]).length)) := by
  have hg : (getObj m).run Try.prog w = .ok (.map (entsB l) l.length) w := by
    simp [getObj, Sem.run, show w.heap[m]? = _ from h]
  have hk := checkKey_pair false e.f0 e.f1 w
  have hf := run_findKey e.f0 e.f1 l w
  rcases findB_some e.f0 e.f1 l 0 with ⟨h1, h2⟩ | ⟨j, x, h1, h2⟩
  · rw [h1] at hf
    simp only [Instr.mapUpdate, Sem.run_bind, run_underlying Try.underlying84, Result.andThen_ok, hg, hk, hf]
    rw [entsB_push, List.length_append]
    simp [setObj, Sem.run, show w.heap[m]? = _ from h, World.putObj]
  · rw [hno] at h2; cases h2
theorem MapIs.put {w : World} {m : Nat} {l l' : List S49} (h : MapIs w m l) : MapIs (w.putObj m (.map (entsB l') l'.length)) m l' := World.putObj_heap_same h.lt

end Go.Proofs.Ytkefmlhkejoknaa.L

/- The walk of newGraph. -/
namespace Go.Proofs.Ytkefmlhkejoknaa.L
set_option linter.unusedVariables false
set_option linter.unusedSimpArgs false
open Go.RowKit Go.Proofs.YtkefmlhkejoknaaW.PrintWords Go.Proofs.YtkefmlhkejoknaaW.PrintLast

theorem inB_iff (a lo hi : Int) : inB a lo hi = true ↔ lo ≤ a ∧ a ≤ hi := by simp [inB]
theorem within_any (a lo hi : Int) (w : World) : Calls Try.prog 89 #[.int .i64 a, .int .i64 lo, .int .i64 hi] w fun e w' => e = .returned (.bool (inB a lo hi)) ∧ w = w' := by
  by_cases h1 : lo ≤ a
  · by_cases h2 : a ≤ hi
    · have H := Lib.hid (show inB a lo hi = true from (inB_iff ..).2 ⟨h1, h2⟩)
      go_enter Try.func89, Try.ntmps89
      go_wp2
      go_ret
      exact ⟨by rw [H.out]; simp, rfl⟩
    · have H := Lib.hid (show inB a lo hi = false from by rw [Bool.eq_false_iff]; intro h; exact h2 ((inB_iff ..).1 h).2)
      go_enter Try.func89, Try.ntmps89
      go_wp2
      go_ret
      exact ⟨by rw [H.out]; simp, rfl⟩
  · have H := Lib.hid (show inB a lo hi = false from by rw [Bool.eq_false_iff]; intro h; exact h1 ((inB_iff ..).1 h).1)
    go_enter Try.func89, Try.ntmps89
    go_wp2
    go_ret
    exact ⟨by rw [H.out]; simp, rfl⟩

theorem edgesOk_le (n : Int) (l : List S49) (k j : Nat) (h : edgesOk n l (k + j) = true) : edgesOk n l k = true := by
  induction j with
  | zero => exact h
  | succ j ih =>
    rw [← Nat.add_assoc] at h
    simp only [edgesOk, Bool.and_eq_true] at h
    exact ih h.1
theorem edgesOk_no (n : Int) (l : List S49) (k : Nat) (hk : k < l.length) (h : edgesOk n l (k + 1) = false) : graphOk n l = false := by
  rw [Bool.eq_false_iff]
  intro hg
  simp only [graphOk, Bool.and_eq_true] at hg
  have := edgesOk_le n l (k + 1) (l.length - (k + 1)) (by rw [show k + 1 + (l.length - (k + 1)) = l.length from by omega]; exact hg.2.2)
  rw [h] at this; cases this
theorem edgesOk_succ (n : Int) (l : List S49) (k : Nat) (hk : k < l.length) : edgesOk n l (k + 1) = (edgesOk n l k && (edgeOk n (rd_T49 l (k : Int)) && !hasEdge (l.take k) (rd_T49 l (k : Int)).f0 (rd_T49 l (k : Int)).f1)) := by
  simp [edgesOk, List.getElem?_eq_getElem hk, rd_T49]
theorem take_snoc (l : List S49) (k : Nat) (hk : k < l.length) : l.take (k + 1) = l.take k ++ [rd_T49 l (k : Int)] := by
  rw [List.take_succ_eq_append_getElem hk]
  simp [rd_T49, List.getElem?_eq_getElem hk]

/-- What newGraph comes to. -/
def NewG (n : Int) (A : Option Addr) (c : Nat) (l : List S49) (w : World) (e : Ending) (w' : World) : Prop :=
  e = .returned (.tuple #[gv n (.slice A l.length c) (w.heap.size + 1), .bool (graphOk n l)]) ∧ Below w.heap.size w w' ∧ (graphOk n l = true → MapIs w' (w.heap.size + 1) l)

set_option maxHeartbeats 1000000 in
theorem newGraph_any (n : Int) (A : Option Addr) (c : Nat) (l : List S49) (w : World) (hC : Kd.C k49 w A l.length l) :
    Calls Try.prog 64 #[.int .i64 n, .slice A l.length c] w (NewG n A c l w) := by
  have hmm := @run_makeMap Try.prog
  cases h1 : inB n 1 12
  · have HG := Lib.hid (show graphOk n l = false from by simp [graphOk, h1])
    have H1 := Lib.hid h1
    clear h1
    go_enter Try.func64, Try.ntmps64
    go_wp2_with (go_at_call 89; refine (within_any _ _ _ _).mono ?_; rintro e w' ⟨rfl, rfl⟩; have h1 := H1.out)
    refine bodyPost_ret (v := .tuple #[gv n (.slice A l.length c) (w.heap.size + 1), .bool false]) (by simp [results, Try.results64, go_sem]) rfl ⟨by rw [HG.out], ?_, by rw [HG.out]; intro h; cases h⟩
    exact below_alloc (below_alloc (below_alloc (Below.refl _ _) _) _) _
  · have b1 := (inB_iff ..).1 h1
    have H1 := Lib.hid h1
    by_cases h2 : l.length ≤ 40
    · clear h1
      have HC := Lib.hid hC
      clear hC
      go_enter Try.func64, Try.ntmps64
      go_wp2_with (go_at_call 89; refine (within_any _ _ _ _).mono ?_; rintro e w' ⟨rfl, rfl⟩; have h1 := H1.out)
      go_loopw [26] (fun i wr => ∃ k : Nat, k ≤ l.length ∧ i = .int .i64 k ∧ Below w.heap.size w wr ∧ Whole wr w.heap.size 86 #[.int .i64 0, .slice none 0 0, .map none] ∧ Whole wr (w.heap.size + 1 + 1) 86 #[.int .i64 n, .slice A l.length c, .map (some (w.heap.size + 1))] ∧ MapIs wr (w.heap.size + 1) (l.take k) ∧ Hid (edgesOk n l k = true)) (fun i _ => l.length - (intOf i).toNat)
      case atStart =>
        refine ⟨0, Nat.zero_le _, rfl, below_alloc (below_alloc (below_alloc (Below.refl _ _) _) _) _, ((Whole.new w 86 _).alloc _).alloc _, ?_, ?_, rfl⟩
        · have := Whole.new ((w.alloc (.cells #[.int .i64 0, .slice none 0 0, .map none] 86)).alloc (.map #[] 0)) 86 #[.int .i64 n, .slice A l.length c, .map (some (w.heap.size + 1))]
          simpa using this
        · have := MapIs.new (w.alloc (.cells #[.int .i64 0, .slice none 0 0, .map none] 86))
          rw [World.size_alloc] at this
          exact this.alloc _
      case round =>
        obtain ⟨k, hk, rfl, hB, hZ, hG, hM, hO⟩ := hrel
        have hlt' := hG.lt
        by_cases hlt : k < l.length
        · obtain ⟨ad, rfl, hc0, hc1, hc2⟩ := at_T49 (Kd.C_below HC.out hB) (k : Int) (by omega) (by omega)
          simp only [Int.toNat_natCast] at hc0 hc1 hc2
          have HZ := Lib.hid hZ
          have HG := Lib.hid hG
          have HM := Lib.hid hM
          have HB := Lib.hid hB
          clear hZ hG hM hB
          go_wp2_with fail
          obtain ⟨W1, hW1⟩ : ∃ W1, wr.alloc (Obj.cells #[Value.int IntKind.i64 (rd_T49 l ↑k).f0, Value.int IntKind.i64 (rd_T49 l ↑k).f1, Value.int IntKind.i64 (rd_T49 l ↑k).f2] 49) = W1 := ⟨_, rfl⟩
          have Z1 := HZ.out.alloc (Obj.cells #[Value.int IntKind.i64 (rd_T49 l ↑k).f0, Value.int IntKind.i64 (rd_T49 l ↑k).f1, Value.int IntKind.i64 (rd_T49 l ↑k).f2] 49)
          have G1 := HG.out.alloc (Obj.cells #[Value.int IntKind.i64 (rd_T49 l ↑k).f0, Value.int IntKind.i64 (rd_T49 l ↑k).f1, Value.int IntKind.i64 (rd_T49 l ↑k).f2] 49)
          have M1 := HM.out.alloc (Obj.cells #[Value.int IntKind.i64 (rd_T49 l ↑k).f0, Value.int IntKind.i64 (rd_T49 l ↑k).f1, Value.int IntKind.i64 (rd_T49 l ↑k).f2] 49)
          have E1 := Whole.new wr 49 #[Value.int IntKind.i64 (rd_T49 l ↑k).f0, Value.int IntKind.i64 (rd_T49 l ↑k).f1, Value.int IntKind.i64 (rd_T49 l ↑k).f2]
          have B1 := below_alloc HB.out (Obj.cells #[Value.int IntKind.i64 (rd_T49 l ↑k).f0, Value.int IntKind.i64 (rd_T49 l ↑k).f1, Value.int IntKind.i64 (rd_T49 l ↑k).f2] 49)
          rw [hW1] at Z1 G1 M1 E1 B1 ⊢
          clear hW1 hc0 hc1 hc2
          have hlt1 := E1.lt
          have z0 := Z1.cell 0
          have z1 := Z1.cell 1
          have z2 := Z1.cell 2
          have y0 := Z1.frozen 0
          have y1 := Z1.frozen 1
          have y2 := Z1.frozen 2
          have g0 := G1.cell 0
          have g1 := G1.cell 1
          have g2 := G1.cell 2
          have x0 := E1.cell 0
          have x1 := E1.cell 1
          have x2 := E1.cell 2
          simp only [List.getElem?_toArray, List.getElem?_cons_zero, List.getElem?_cons_succ] at z0 z1 z2 g0 g1 g2 x0 x1 x2
          obtain ⟨q, hq⟩ := lookup_pair M1 (rd_T49 l ↑k).f0 (rd_T49 l ↑k).f1
          have HS := Lib.hid (edgesOk_succ n l k hlt)
          cases c1 : inB (rd_T49 l ↑k).f1 1 (n - 1)
          · have HX := Lib.hid (edgesOk_no n l k hlt (by rw [HS.out]; simp [edgeOk, c1]))
            have C1 := Lib.hid c1
            clear c1
            go_wp2_with (go_at_call 89; refine (within_any _ _ _ _).mono ?_; rintro e w' ⟨rfl, rfl⟩; have c1 := C1.out)
            refine bodyPost_ret (v := .tuple #[gv n (.slice (some ad) l.length c) (w.heap.size + 1), .bool false]) (by simp [results, Try.results64, go_sem, z0, z1, z2]) rfl ⟨by rw [HX.out], ?_, by rw [HX.out]; intro h; cases h⟩
            exact ((B1.setCell (p := ⟨w.heap.size, 0, none⟩) (Nat.le_refl _) _).setCell (p := ⟨w.heap.size, 1, none⟩) (Nat.le_refl _) _).setCell (p := ⟨w.heap.size, 2, none⟩) (Nat.le_refl _) _
          · have b2 := (inB_iff ..).1 c1
            have C1 := Lib.hid c1
            cases c2 : inB (rd_T49 l ↑k).f0 0 ((rd_T49 l ↑k).f1 - 1)
            · have HX := Lib.hid (edgesOk_no n l k hlt (by rw [HS.out]; simp [edgeOk, c2]))
              have C2 := Lib.hid c2
              clear c1 c2
              go_wp2_with (go_at_call 89; refine (within_any _ _ _ _).mono ?_; rintro e w' ⟨rfl, rfl⟩; have c1 := C1.out; have c2 := C2.out)
              refine bodyPost_ret (v := .tuple #[gv n (.slice (some ad) l.length c) (w.heap.size + 1), .bool false]) (by simp [results, Try.results64, go_sem, z0, z1, z2]) rfl ⟨by rw [HX.out], ?_, by rw [HX.out]; intro h; cases h⟩
              exact ((B1.setCell (p := ⟨w.heap.size, 0, none⟩) (Nat.le_refl _) _).setCell (p := ⟨w.heap.size, 1, none⟩) (Nat.le_refl _) _).setCell (p := ⟨w.heap.size, 2, none⟩) (Nat.le_refl _) _
            · have b3 := (inB_iff ..).1 c2
              have C2 := Lib.hid c2
              cases c3 : inB (rd_T49 l ↑k).f2 (-50) 50
              · have HX := Lib.hid (edgesOk_no n l k hlt (by rw [HS.out]; simp [edgeOk, c3]))
                have C3 := Lib.hid c3
                clear c1 c2 c3
                go_wp2_with (go_at_call 89; refine (within_any _ _ _ _).mono ?_; rintro e w' ⟨rfl, rfl⟩; have c1 := C1.out; have c2 := C2.out; have c3 := C3.out)
                refine bodyPost_ret (v := .tuple #[gv n (.slice (some ad) l.length c) (w.heap.size + 1), .bool false]) (by simp [results, Try.results64, go_sem, z0, z1, z2]) rfl ⟨by rw [HX.out], ?_, by rw [HX.out]; intro h; cases h⟩
                exact ((B1.setCell (p := ⟨w.heap.size, 0, none⟩) (Nat.le_refl _) _).setCell (p := ⟨w.heap.size, 1, none⟩) (Nat.le_refl _) _).setCell (p := ⟨w.heap.size, 2, none⟩) (Nat.le_refl _) _
              · have C3 := Lib.hid c3
                cases c4 : hasEdge (l.take k) (rd_T49 l ↑k).f0 (rd_T49 l ↑k).f1
                · have HN := Lib.hid (show edgesOk n l (k + 1) = true from by rw [HS.out, hO.out]; simp [edgeOk, c1, c2, c3, c4])
                  have hu := update_pair M1 (rd_T49 l ↑k) c4
                  have M2 := M1.put (l' := l.take k ++ [rd_T49 l ↑k])
                  rw [← take_snoc l k hlt] at hu M2
                  simp only [List.length_take] at hu M2
                  have HM2 := Lib.hid M2
                  clear c1 c2 c3 M2
                  go_wp2_with (go_at_call 89; refine (within_any _ _ _ _).mono ?_; rintro e w' ⟨rfl, rfl⟩; have c1 := C1.out; have c2 := C2.out; have c3 := C3.out)
                  exact ⟨⟨k + 1, by omega, by go_num, Below.putObj B1 (by omega) _, Z1.putObj (by omega) _, G1.putObj (by omega) _, HM2.out, HN⟩, by simp [intOf]; omega⟩
                · have HX := Lib.hid (edgesOk_no n l k hlt (by rw [HS.out]; simp [c4]))
                  clear c1 c2 c3
                  go_wp2_with (go_at_call 89; refine (within_any _ _ _ _).mono ?_; rintro e w' ⟨rfl, rfl⟩; have c1 := C1.out; have c2 := C2.out; have c3 := C3.out)
                  refine bodyPost_ret (v := .tuple #[gv n (.slice (some ad) l.length c) (w.heap.size + 1), .bool false]) (by simp [results, Try.results64, go_sem, z0, z1, z2]) rfl ⟨by rw [HX.out], ?_, by rw [HX.out]; intro h; cases h⟩
                  exact ((B1.setCell (p := ⟨w.heap.size, 0, none⟩) (Nat.le_refl _) _).setCell (p := ⟨w.heap.size, 1, none⟩) (Nat.le_refl _) _).setCell (p := ⟨w.heap.size, 2, none⟩) (Nat.le_refl _) _
        · obtain rfl : k = l.length := by omega
          have HX := Lib.hid (show graphOk n l = true from by simp only [graphOk, Bool.and_eq_true, decide_eq_true_eq]; exact ⟨H1.out, h2, hO.out⟩)
          rw [List.take_length] at hM
          have z0 := hZ.cell 0
          have z1 := hZ.cell 1
          have z2 := hZ.cell 2
          have y0 := hZ.frozen 0
          have y1 := hZ.frozen 1
          have y2 := hZ.frozen 2
          have g0 := hG.cell 0
          have g1 := hG.cell 1
          have g2 := hG.cell 2
          simp only [List.getElem?_toArray, List.getElem?_cons_zero, List.getElem?_cons_succ] at z0 z1 z2 g0 g1 g2
          have HM := Lib.hid (((hM.setCell ⟨w.heap.size, 0, none⟩ (.int .i64 n)).setCell ⟨w.heap.size, 1, none⟩ (.slice A l.length c)).setCell ⟨w.heap.size, 2, none⟩ (.map (some (w.heap.size + 1))))
          have HB := Lib.hid (((hB.setCell (p := ⟨w.heap.size, 0, none⟩) (Nat.le_refl _) (.int .i64 n)).setCell (p := ⟨w.heap.size, 1, none⟩) (Nat.le_refl _) (.slice A l.length c)).setCell (p := ⟨w.heap.size, 2, none⟩) (Nat.le_refl _) (.map (some (w.heap.size + 1))))
          clear hM hB hZ hG
          go_wp2
          exact bodyPost_ret (v := .tuple #[gv n (.slice A l.length c) (w.heap.size + 1), .bool true]) (by simp [results, Try.results64, go_sem, z0, z1, z2]) rfl ⟨by rw [HX.out], HB.out, fun _ => HM.out⟩
    · have HG := Lib.hid (show graphOk n l = false from by simp [graphOk, h1, h2])
      clear h1
      go_enter Try.func64, Try.ntmps64
      go_wp2_with (go_at_call 89; refine (within_any _ _ _ _).mono ?_; rintro e w' ⟨rfl, rfl⟩; have h1 := H1.out)
      refine bodyPost_ret (v := .tuple #[gv n (.slice A l.length c) (w.heap.size + 1), .bool false]) (by simp [results, Try.results64, go_sem]) rfl ⟨by rw [HG.out], ?_, by rw [HG.out]; intro h; cases h⟩
      exact below_alloc (below_alloc (below_alloc (Below.refl _ _) _) _) _

end Go.Proofs.Ytkefmlhkejoknaa.L

/- The iterator (graph).sides: it hands over the sides that are wanted, in order, each with its value. -/
namespace Go.Proofs.Ytkefmlhkejoknaa.L
set_option linter.unusedVariables false
set_option linter.unusedSimpArgs false
open Go.RowKit Go.Shelf Go.Proofs.YtkefmlhkejoknaaW.PrintWords Go.Proofs.YtkefmlhkejoknaaW.PrintLast
attribute [local go_sem] Oper.semAt_some

/-- A side, as a number. -/
abbrev ASide := { s : Nat // s < 4096 }
/-- The sides below k that are wanted. -/
def sidesUpTo (want : Nat → Bool) : Nat → List ASide
  | 0 => []
  | k + 1 => if h : k < 4096 then (if want k then sidesUpTo want k ++ [⟨k, h⟩] else sidesUpTo want k) else sidesUpTo want k
theorem sidesUpTo_hit (want : Nat → Bool) (k : Nat) (h : k < 4096) (hw : want k = true) : sidesUpTo want (k + 1) = sidesUpTo want k ++ [⟨k, h⟩] := by simp [sidesUpTo, h, hw]
theorem sidesUpTo_miss (want : Nat → Bool) (k : Nat) (hw : want k = false) : sidesUpTo want (k + 1) = sidesUpTo want k := by simp [sidesUpTo, hw]
theorem sidesUpTo_length (want : Nat → Bool) (k : Nat) : (sidesUpTo want k).length ≤ k := by
  induction k with
  | zero => simp [sidesUpTo]
  | succ k ih =>
    unfold sidesUpTo
    split
    · split
      · simp; omega
      · omega
    · omega

/-- What a function value that asks for sides answers, in every world in which all that lay below n₀ lies. -/
def WantAt (g : Nat) (fst cap : Array Value) (n₀ : Nat) (want : Nat → Bool) (w : World) : Prop :=
  (∀ args w, (callFunc g args).run Try.prog w = .ok (.enter g args) w) ∧
  ∀ W : World, Below n₀ w W → ∀ s : Nat, s < 4096 → Calls Try.prog g (fst.push (.int .u64 (s : Int)) ++ cap) W fun e W' => e = .returned (.bool (want s)) ∧ Below W.heap.size W W'

/-- What a round keeps: what lay below n₀, and two blocks. -/
def KpG (n₀ g1 g2 : Nat) (W W' : World) : Prop := Below n₀ W W' ∧ ∀ k, (k = g1 ∨ k = g2) → ∀ o : Obj, W.heap[k]? = some o → o.isCells = true → W'.heap[k]? = some o
theorem KpG_t {n₀ g1 g2 : Nat} {A B C : World} (h : KpG n₀ g1 g2 A B) (k : KpG n₀ g1 g2 B C) : KpG n₀ g1 g2 A C :=
  ⟨h.1.trans k.1, fun j hj o ho hc => k.2 j hj o (h.2 j hj o ho hc) hc⟩
theorem KpG_b {n₀ g1 g2 : Nat} {w : World} (hn : n₀ ≤ w.heap.size) (W : World) (l : Nat) (o o' : Obj) (hl : w.heap.size ≤ l) (h : W.heap[l]? = some o) (hc : o.isCells = false) (hw : o.isWalk = false) : KpG n₀ g1 g2 W (W.putObj l o') :=
  ⟨belowK_b hn W l o o' hl h hc hw, fun k hk q hq hqc => by
    by_cases e : k = l
    · subst e; rw [h] at hq; cases hq; rw [hc] at hqc; cases hqc
    · exact (World.putObj_heap_other e).trans hq⟩
theorem KpG.whole {n₀ g1 g2 : Nat} {W W' : World} (h : KpG n₀ g1 g2 W W') {g : Nat} {t : TypeId} {cs : Array Value} (hg : g = g1 ∨ g = g2) (hw : Whole W g t cs) : Whole W' g t cs := h.2 g hg _ hw rfl
theorem KpG.setCell {n₀ g1 g2 : Nat} (W : World) {p : Addr} (h : n₀ ≤ p.block) (h1 : g1 ≠ p.block) (h2 : g2 ≠ p.block) (u : Value) : KpG n₀ g1 g2 W (W.setCell p u) :=
  ⟨(Below.refl n₀ W).setCell h u, fun k hk o ho _ => (Below.heap_setCell W p u k (by rcases hk with rfl | rfl <;> assumption)).trans ho⟩
theorem KpG.setAt {n₀ g1 g2 : Nat} (W : World) {b : Nat} (h : n₀ ≤ b) (h1 : g1 ≠ b) (h2 : g2 ≠ b) (u : Value) : KpG n₀ g1 g2 W (W.setCell ⟨b, 0, none⟩ u) := KpG.setCell W (p := ⟨b, 0, none⟩) h h1 h2 u
theorem KpG.of_below {n₀ g1 g2 : Nat} {W W' : World} (h : Below W.heap.size W W') (hn : n₀ ≤ W.heap.size) : KpG n₀ g1 g2 W W' :=
  ⟨h.mono hn, fun k _ o ho _ => (h.block k (Array.getElem?_eq_some_iff.1 ho).1).trans ho⟩

theorem shl_n (n : Int) (h0 : 1 ≤ n) (hn : n ≤ 12) : IntKind.u64.wrap (2 ^ n.toNat) = ((2 ^ n.toNat : Nat) : Int) := by
  have : n = 1 ∨ n = 2 ∨ n = 3 ∨ n = 4 ∨ n = 5 ∨ n = 6 ∨ n = 7 ∨ n = 8 ∨ n = 9 ∨ n = 10 ∨ n = 11 ∨ n = 12 := by omega
  rcases this with h | h | h | h | h | h | h | h | h | h | h | h <;> subst h <;> rfl
theorem pow_le (n : Int) (h0 : 1 ≤ n) (hn : n ≤ 12) : 2 ^ n.toNat ≤ 4096 := by
  have : n = 1 ∨ n = 2 ∨ n = 3 ∨ n = 4 ∨ n = 5 ∨ n = 6 ∨ n = 7 ∨ n = 8 ∨ n = 9 ∨ n = 10 ∨ n = 11 ∨ n = 12 := by omega
  rcases this with h | h | h | h | h | h | h | h | h | h | h | h <;> subst h <;> decide

/-- What the iterator comes to: all the sides have come, or a round has said no more. -/
def SidesPost (want : Nat → Bool) (P : Nat) (J Jx : List ASide → World → Prop) (e : Ending) (W' : World) : Prop :=
  (∃ v, e = .returned v) ∧ ((∃ ys, ys = sidesUpTo want P ∧ J ys W') ∨ (∃ pre, (∃ k, k ≤ P ∧ pre = sidesUpTo want k) ∧ Jx pre W'))

set_option maxRecDepth 100000 in
set_option maxHeartbeats 2000000 in
theorem sides1_in (d : Nat) (lp gB wB n₀ : Nat) (n : Int) (A : Option Addr) (c m : Nat) (l : List S49) (g : Nat) (fst cap : Array Value) (want : Nat → Bool) (J Jx : List ASide → World → Prop) (W : World) (P : Nat) (hP : 2 ^ n.toNat = P)
    (hn : n ≤ 12) (h0 : 1 ≤ n) (hl : l.length ≤ 40) (hE : EdgesIn n l) (hWa : WantAt g fst cap n₀ want W) (hn₀ : n₀ ≤ W.heap.size)
    (hC : ∀ W' : World, Below n₀ W W' → Kd.C k49 W' A l.length l)
    (hG : Whole W gB 86 #[.int .i64 n, .slice A l.length c, .map (some m)]) (hV : Whole W wB 93 #[.func (.func g) fst cap])
    (hAb : AbidesFrom W.heap.size J)
    (hY : ∀ pre x W1, J pre W1 → pre.length < 4096 → YieldAt Fence.wide (d - 1) Try.prog lp #[.int .u64 (x.1 : Int), .int .i64 (valB n x.1 l)] W1 fun e W' =>
      (e = .returned (.bool true) ∧ J (pre ++ [x]) W' ∧ KpG n₀ gB wB W1 W') ∨ (e = .returned (.bool false) ∧ Jx (pre ++ [x]) W'))
    (hJ : J [] W) :
    CallsIn Fence.wide d Try.prog 120 #[.func (.yield lp) #[] #[], .pointer (some ⟨gB, 0, none⟩), .pointer (some ⟨wB, 0, none⟩)] W (SidesPost want P J Jx) := by
  have HC := Lib.hid hC
  have HE := Lib.hid hE
  have HW := Lib.hid hWa
  have HA := Lib.hid hAb
  have HY := Lib.hid hY
  have hS := shl_n n h0 hn
  have hp := pow_le n h0 hn
  rw [hP] at hS hp
  have HS := Lib.hid hS
  clear hS hP
  have eg := hWa.1
  clear hC hE hWa hAb hY
  have g0 := hG.cell 0
  simp only [List.getElem?_toArray, List.getElem?_cons_zero] at g0
  refine callsIn_of_wp Try.func120 rfl trivial ?_ rfl
  simp only [Try.ntmps120, List.size_toArray, List.length_cons, List.length_nil, Nat.reduceAdd, Nat.reduceSub, Array.replicate_succ, Array.replicate_zero, List.push_toArray, List.append_toArray, List.nil_append, List.cons_append]
  gi_wp2
  rw [HS.out]
  clear HS
  gi_loopw [8] (fun i wr => ∃ k : Nat, k ≤ P ∧ i = .int .u64 (k : Int) ∧ J (sidesUpTo want k) wr ∧ KpG n₀ gB wB W wr ∧ W.heap.size ≤ wr.heap.size) (fun i _ => P - (intOf i).toNat)
  case atStart => exact ⟨0, Nat.zero_le _, rfl, hJ, ⟨Below.refl _ _, fun _ _ _ h _ => h⟩, Nat.le_refl _⟩
  case round =>
    obtain ⟨k, hk, rfl, hJk, hK, hsz⟩ := hrel
    by_cases hlt : k < P
    · have hk4 : k < 4096 := by omega
      have hltI : (k : Int) < (P : Int) := by omega
      have G1 := hK.whole (.inl rfl) hG
      have V1 := hK.whole (.inr rfl) hV
      have v0 := V1.cell 0
      simp only [List.getElem?_toArray, List.getElem?_cons_zero] at v0
      have hcall := HW.out.2 wr hK.1 k hk4
      have HCALL := Lib.hid hcall
      have HKK := Lib.hid hK
      have HG1 := Lib.hid G1
      clear hcall hK G1 V1
      cases hw : want k
      · have HM := Lib.hid (sidesUpTo_miss want k hw)
        have HX := Lib.hid hw
        clear hw
        gi_wp2_with fail
        refine ⟨trivial, fun h => absurd h (by decide), (callsIn_wide.2 HCALL.out).mono ?_⟩
        rintro e w1 ⟨rfl, hb⟩
        have hw := HX.out
        have hJ1 := Lib.hid (HA.out _ _ _ none hJk (grown_of_below hb none) (fun r e => by cases e))
        have hK1 := Lib.hid (KpG_t HKK.out (KpG.of_below (g1 := gB) (g2 := wB) hb (by omega)))
        have hs1 := hb.size
        gi_wp2
        refine ⟨trivial, ?_⟩
        gi_wp2
        refine ⟨fun _ h => (by cases h), ?_⟩
        gi_wp2
        exact ⟨⟨k + 1, by omega, by go_num, by rw [HM.out]; exact hJ1, hK1, by omega⟩, by simp [intOf]; omega⟩
      · have HM := Lib.hid (sidesUpTo_hit want k hk4 hw)
        have HX := Lib.hid hw
        clear hw
        gi_wp2_with fail
        refine ⟨trivial, fun h => absurd h (by decide), (callsIn_wide.2 HCALL.out).mono ?_⟩
        rintro e w1 ⟨rfl, hb⟩
        have hw := HX.out
        have hJ1 := HA.out _ _ _ none hJk (grown_of_below hb none) (fun r e => by cases e)
        have hK1 := KpG_t HKK.out (KpG.of_below (g1 := gB) (g2 := wB) hb (by omega))
        have hs1 := hb.size
        have G2 := hK1.whole (.inl rfl) hG
        have g0' := G2.cell 0
        have g1' := G2.cell 1
        have g2' := G2.cell 2
        simp only [List.getElem?_toArray, List.getElem?_cons_zero, List.getElem?_cons_succ] at g0' g1' g2'
        have HB1 := Lib.hid hb
        have HJ1 := Lib.hid hJ1
        have HK1 := Lib.hid hK1
        clear hb hJ1 hK1 G2
        gi_wp2_with fail
        refine ⟨trivial, fun h => absurd h (by decide), (callsIn_wide.2 (value_any n A c m l k w1 hn h0 hk4 (HC.out _ HK1.out.1) hl HE.out)).mono ?_⟩
        rintro e w2 ⟨rfl, hb2⟩
        have hJ2 := HA.out _ _ _ none HJ1.out (grown_of_below hb2 none) (fun r e => by cases e)
        have hK2 := KpG_t HK1.out (KpG.of_below (g1 := gB) (g2 := wB) hb2 (by omega))
        have hs2 := hb2.size
        have hlen := sidesUpTo_length want k
        obtain ⟨fn, tmps, assign, body, hy, hR⟩ := HY.out (sidesUpTo want k) ⟨k, hk4⟩ w2 hJ2 (by omega)
        dsimp only at hy
        have HK2 := Lib.hid hK2
        clear hK2 hb2 hJ2
        gi_wp2
        refine ⟨fun h => absurd h (by decide), hR.mono ?_⟩
        rintro e w3 (⟨rfl, hJ3, hk3⟩ | ⟨rfl, hJx3⟩)
        · have HJ3 := Lib.hid hJ3
          have HK3 := Lib.hid (KpG_t HK2.out hk3)
          have hs3 := hk3.1.size
          clear hJ3 hk3
          gi_wp2
          exact ⟨⟨k + 1, by omega, by go_num, by rw [HM.out]; exact HJ3.out, HK3.out, by omega⟩, by simp [intOf]; omega⟩
        · have HJ3 := Lib.hid hJx3
          clear hJx3
          gi_wp2
          refine bodyPost_ret (results_none rfl _ _ _) rfl ?_
          exact ⟨⟨_, rfl⟩, .inr ⟨_, ⟨k + 1, by omega, HM.out.symm⟩, HJ3.out⟩⟩
    · obtain rfl : k = P := by omega
      have hltI : ¬ (k : Int) < (k : Int) := by omega
      gi_wp2
      go_end0
      exact ⟨⟨_, rfl⟩, .inl ⟨_, rfl, hJk⟩⟩

set_option maxHeartbeats 1000000 in
theorem sides_any (n : Int) (ev : Value) (m : Nat) (fv : Value) (w : World) (hev : ev.oneCell' = true) (hfv : fv.oneCell' = true) :
    Calls Try.prog 93 #[gv n ev m, fv] w fun e w' => e = .returned (.func (.func 120) #[] #[.pointer (some ⟨w.heap.size, 0, none⟩), .pointer (some ⟨w.heap.size + 1, 0, none⟩)]) ∧ (w.alloc (gbox n ev m)).alloc (.cells #[fv] 93) = w' := by
  go_enter Try.func93, Try.ntmps93
  go_wp2
  go_ret
  exact ⟨rfl, rfl⟩

end Go.Proofs.Ytkefmlhkejoknaa.L

/- The walk of (graph).best: the first one of the wanted sides with the greatest value. -/
namespace Go.Proofs.Ytkefmlhkejoknaa.L
set_option linter.unusedVariables false
set_option linter.unusedSimpArgs false
open Go.RowKit Go.Shelf Go.Proofs.YtkefmlhkejoknaaW.PrintWords Go.Proofs.YtkefmlhkejoknaaW.PrintLast
attribute [local go_sem] Oper.semAt_some

/-- One side more. -/
def bestF (n : Int) (l : List S49) (r : Nat × Int × Int) (s : Nat) : Nat × Int × Int :=
  if r.2.2 = 0 ∨ valB n s l > r.2.1 then (s, valB n s l, 1) else if valB n s l = r.2.1 then (r.1, r.2.1, r.2.2 + 1) else r
def bestL (n : Int) (l : List S49) (pre : List ASide) : Nat × Int × Int := pre.foldl (fun r x => bestF n l r x.1) (0, 0, 0)
theorem bestL_snoc (n : Int) (l : List S49) (pre : List ASide) (x : ASide) : bestL n l (pre ++ [x]) = bestF n l (bestL n l pre) x.1 := by simp [bestL]
theorem bestL_upTo (n : Int) (l : List S49) (want : Nat → Bool) (k : Nat) (hk : k ≤ 4096) : bestL n l (sidesUpTo want k) = bestB n l want k := by
  induction k with
  | zero => rfl
  | succ k ih =>
    have ih' := ih (by omega)
    cases hw : want k
    · rw [sidesUpTo_miss want k hw, ih']; simp [bestB, bestStep, hw]
    · rw [sidesUpTo_hit want k (by omega) hw, bestL_snoc, ih']; simp [bestB, bestStep, bestF, hw]
theorem bestF_many (n : Int) (l : List S49) (r : Nat × Int × Int) (s : Nat) (h : 0 ≤ r.2.2) : 0 ≤ (bestF n l r s).2.2 ∧ (bestF n l r s).2.2 ≤ r.2.2 + 1 := by
  unfold bestF
  split
  · simp; omega
  · split
    · simp; omega
    · omega
theorem bestL_many (n : Int) (l : List S49) (pre : List ASide) : 0 ≤ (bestL n l pre).2.2 ∧ (bestL n l pre).2.2 ≤ pre.length := by
  have key : ∀ (pre : List ASide) (r : Nat × Int × Int), 0 ≤ r.2.2 → 0 ≤ (pre.foldl (fun r x => bestF n l r x.1) r).2.2 ∧ (pre.foldl (fun r x => bestF n l r x.1) r).2.2 ≤ r.2.2 + pre.length := by
    intro pre
    induction pre with
    | nil => intro r h; simp; omega
    | cons x pre ih =>
      intro r h
      have h1 := bestF_many n l r x.1 h
      have h2 := ih (bestF n l r x.1) h1.1
      simp only [List.foldl_cons, List.length_cons]
      omega
  have := key pre (0, 0, 0) (Int.le_refl _)
  simp only [Int.zero_add] at this
  exact this

set_option maxRecDepth 100000 in
set_option maxHeartbeats 4000000 in
theorem best_any (n : Int) (A : Option Addr) (c m : Nat) (l : List S49) (g : Nat) (fst cap : Array Value) (want : Nat → Bool) (w : World)
    (hn : n ≤ 12) (h0 : 1 ≤ n) (hl : l.length ≤ 40) (hE : EdgesIn n l) (hC : Kd.C k49 w A l.length l) (hWa : WantAt g fst cap w.heap.size want w) :
    Calls Try.prog 65 #[gv n (.slice A l.length c) m, .func (.func g) fst cap] w fun e w' => e = .returned (.tuple #[.int .u64 ((bestB n l want (2 ^ n.toNat)).1 : Int), .int .i64 (bestB n l want (2 ^ n.toNat)).2.1, .int .i64 (bestB n l want (2 ^ n.toNat)).2.2]) ∧ Below w.heap.size w w' := by
  obtain ⟨P, hP⟩ : ∃ P, 2 ^ n.toNat = P := ⟨_, rfl⟩
  rw [hP]
  have hp := pow_le n h0 hn
  rw [hP] at hp
  have HP := Lib.hid hP
  have HC := Lib.hid hC
  have HE := Lib.hid hE
  have HW := Lib.hid hWa
  clear hP hC hE hWa
  refine (callsIn_wide (n := 6)).1 ?_
  refine callsIn_of_wp_marks Try.func65 rfl trivial ?_ rfl
  simp only [Try.ntmps65, List.size_toArray, List.length_cons, List.length_nil, Nat.reduceAdd, Nat.reduceSub, Array.replicate_succ, Array.replicate_zero, List.push_toArray, List.append_toArray, List.nil_append, List.cons_append]
  gi_wp2_with (refine ⟨trivial, ?_⟩; gi_at_call 93; refine (callsIn_wide.2 (sides_any _ _ _ _ _ rfl rfl)).mono ?_; rintro e w' ⟨rfl, rfl⟩)
  obtain ⟨W0, hW0⟩ : ∃ W0, ((((w.alloc (gbox n (.slice A l.length c) m)).alloc (.cells #[.int .u64 0] 90)).alloc (.cells #[.int .i64 0] 3)).alloc (.cells #[.int .i64 0] 3)) = W0 := ⟨_, rfl⟩
  have bA := ((Boxed.new (w.alloc (gbox n (.slice A l.length c) m)) 90 (.int .u64 0)).alloc (.cells #[.int .i64 0] 3)).alloc (.cells #[.int .i64 0] 3)
  have bB := (Boxed.new ((w.alloc (gbox n (.slice A l.length c) m)).alloc (.cells #[.int .u64 0] 90)) 3 (.int .i64 0)).alloc (.cells #[.int .i64 0] 3)
  have bD := Boxed.new (((w.alloc (gbox n (.slice A l.length c) m)).alloc (.cells #[.int .u64 0] 90)).alloc (.cells #[.int .i64 0] 3)) 3 (.int .i64 0)
  have hB0 := below_alloc (below_alloc (below_alloc (below_alloc (Below.refl w.heap.size w) (gbox n (.slice A l.length c) m)) (.cells #[.int .u64 0] 90)) (.cells #[.int .i64 0] 3)) (.cells #[.int .i64 0] 3)
  have hz0 : W0.heap.size = w.heap.size + 1 + 1 + 1 + 1 := by rw [← hW0]; simp only [World.size_alloc]
  simp only [World.size_alloc] at bA bB bD
  rw [hW0] at bA bB bD hB0 ⊢
  clear hW0
  have hGx := (Whole.new W0 86 #[.int .i64 n, .slice A l.length c, .map (some m)]).alloc (.cells #[.func (.func g) fst cap] 93)
  have hVx := Whole.new (W0.alloc (gbox n (.slice A l.length c) m)) 93 #[.func (.func g) fst cap]
  have hB1 := below_alloc (below_alloc hB0 (gbox n (.slice A l.length c) m)) (.cells #[.func (.func g) fst cap] 93)
  rw [World.size_alloc] at hVx
  have bA1 := (bA.alloc (gbox n (.slice A l.length c) m)).alloc (.cells #[.func (.func g) fst cap] 93)
  have bB1 := (bB.alloc (gbox n (.slice A l.length c) m)).alloc (.cells #[.func (.func g) fst cap] 93)
  have bD1 := (bD.alloc (gbox n (.slice A l.length c) m)).alloc (.cells #[.func (.func g) fst cap] 93)
  rw [hz0] at hGx hVx
  have hz1 : ((W0.alloc (gbox n (.slice A l.length c) m)).alloc (.cells #[.func (.func g) fst cap] 93)).heap.size = w.heap.size + 6 := by simp; omega
  generalize (W0.alloc (gbox n (.slice A l.length c) m)).alloc (.cells #[.func (.func g) fst cap] 93) = W1 at hGx hVx hB1 bA1 bB1 bD1 hz1 ⊢
  have hseq : SeqStopsK Fence.wide 5 Try.prog 120 #[.pointer (some ⟨(w.heap.size + 1 + 1 + 1 + 1), 0, none⟩), .pointer (some ⟨(w.heap.size + 1 + 1 + 1 + 1) + 1, 0, none⟩)] (fun x : ASide => #[.int .u64 (x.1 : Int), .int .i64 (valB n x.1 l)]) (KpG w.heap.size (w.heap.size + 1 + 1 + 1 + 1) ((w.heap.size + 1 + 1 + 1 + 1) + 1)) (fun ys => ys = sidesUpTo want P) (fun pre => ∃ k, k ≤ P ∧ pre = sidesUpTo want k) 4096 W1 := by
    intro lp J Jx W hW hJ hJx hY h0'
    refine sides1_in 5 lp (w.heap.size + 1 + 1 + 1 + 1) ((w.heap.size + 1 + 1 + 1 + 1) + 1) w.heap.size n A c m l g fst cap want J Jx W P HP.out hn h0 hl HE.out ?_ (by have := hB1.size; have := hW.size; omega) (fun W' hb => Kd.C_below HC.out ((hB1.trans (hW.mono hB1.size)).trans hb)) (hGx.below hW hGx.lt) (hVx.below hW hVx.lt) hJ hY h0'
    exact ⟨HW.out.1, fun X hX s hs => HW.out.2 X ((hB1.trans (hW.mono hB1.size)).trans hX) s hs⟩
  refine wpIn_rangeFunc_ownG rfl (by omega) (gf := 120) (lb := #[.pointer (some ⟨(w.heap.size + 1 + 1 + 1 + 1), 0, none⟩), .pointer (some ⟨(w.heap.size + 1 + 1 + 1 + 1) + 1, 0, none⟩)]) rfl trivial (enters_of Try.func120 (by kernel_rfl) rfl) hseq (fun h k => KpG_t h k) (KpG_b (by have := hB1.size; omega)) (Below.refl _ _) (fun _ => rfl)
    (fun pre W => (Boxed W (w.heap.size + 1) 90 (.int .u64 ((bestL n l pre).1 : Int)) ∧ Boxed W (w.heap.size + 1 + 1) 3 (.int .i64 (bestL n l pre).2.1) ∧ Boxed W (w.heap.size + 1 + 1 + 1) 3 (.int .i64 (bestL n l pre).2.2)) ∧ Below w.heap.size w W)
    (fun _ _ _ => False) ?hI (fun _ _ _ _ _ hs _ _ => hs) ⟨⟨bA1, bB1, bD1⟩, hB1⟩ ?a1 ?assign ?body ?done ?stop
  case hI => exact OwnFrom.and (OwnFrom.and (Own.from (boxed_own _ _ _) _) (OwnFrom.and (Own.from (boxed_own _ _ _) _) (Own.from (boxed_own _ _ _) _))) (ownFrom_below (Nat.le_refl _) (by omega))
  case assign =>
    intro l x W K hK
    gi_wp2
    exact hK
  case body =>
    rintro lp pre x W ⟨⟨b1, b2, b3⟩, hB⟩ hlt
    have hmany := bestL_many n l pre
    have HSN := Lib.hid (bestL_snoc n l pre x)
    rcases hr : bestL n l pre with ⟨rb, rm, rk⟩
    rw [hr] at hmany b1 b2 b3
    have HR := Lib.hid hr
    clear hr
    dsimp only at hmany b1 b2 b3
    have hne1 : w.heap.size + 1 ≠ w.heap.size + 1 + 1 := by omega
    generalize hv : valB n x.1 l = v
    have HV := Lib.hid hv
    clear hv
    have c1 := b1.cell
    have c2 := b2.cell
    have c3 := b3.cell
    have f1 := b1.frozen
    have f2 := b2.frozen
    have f3 := b3.frozen
    by_cases e1 : rk = 0
    · subst e1
      have HF := Lib.hid (show bestL n l (pre ++ [x]) = (x.1, v, 1) from by rw [HSN.out, HR.out]; simp [bestF, HV.out])
      gi_wp2
      exact ⟨(((KeepsOthers.setCell _ _ _).trans (KeepsOthers.setCell _ _ _)).trans (KeepsOthers.setCell _ _ _)).from _, KpG_t (KpG_t (KpG.setAt (b := w.heap.size + 1) W (by omega) (by omega) (by omega) _) (KpG.setAt (b := w.heap.size + 1 + 1) _ (by omega) (by omega) (by omega) _)) (KpG.setAt (b := w.heap.size + 1 + 1 + 1) _ (by omega) (by omega) (by omega) _), ⟨by rw [HF.out]; exact ((b1.set _).other (by omega) _).other (by omega) _, by rw [HF.out]; exact ((b2.other (by omega) _).set _).other (by omega) _, by rw [HF.out]; exact ((b3.other (by omega) _).other (by omega) _).set _⟩, Below.setAt (b := w.heap.size + 1 + 1 + 1) (Below.setAt (b := w.heap.size + 1 + 1) (Below.setAt (b := w.heap.size + 1) hB (by omega) 0 _) (by omega) 0 _) (by omega) 0 _⟩
    · have e1' : (rk == 0) = false := by simp [e1]
      have hk4 : pre.length < 4096 := hlt
      rcases Int.lt_trichotomy rm v with e2 | e2 | e2
      · have HF := Lib.hid (show bestL n l (pre ++ [x]) = (x.1, v, 1) from by rw [HSN.out, HR.out]; simp [bestF, HV.out, e2])
        clear e1
        gi_wp2
        exact ⟨(((KeepsOthers.setCell _ _ _).trans (KeepsOthers.setCell _ _ _)).trans (KeepsOthers.setCell _ _ _)).from _, KpG_t (KpG_t (KpG.setAt (b := w.heap.size + 1) W (by omega) (by omega) (by omega) _) (KpG.setAt (b := w.heap.size + 1 + 1) _ (by omega) (by omega) (by omega) _)) (KpG.setAt (b := w.heap.size + 1 + 1 + 1) _ (by omega) (by omega) (by omega) _), ⟨by rw [HF.out]; exact ((b1.set _).other (by omega) _).other (by omega) _, by rw [HF.out]; exact ((b2.other (by omega) _).set _).other (by omega) _, by rw [HF.out]; exact ((b3.other (by omega) _).other (by omega) _).set _⟩, Below.setAt (b := w.heap.size + 1 + 1 + 1) (Below.setAt (b := w.heap.size + 1 + 1) (Below.setAt (b := w.heap.size + 1) hB (by omega) 0 _) (by omega) 0 _) (by omega) 0 _⟩
      · subst e2
        have HF := Lib.hid (show bestL n l (pre ++ [x]) = (rb, rm, rk + 1) from by rw [HSN.out, HR.out]; simp [bestF, HV.out, e1])
        clear e1
        gi_wp2
        exact ⟨(KeepsOthers.setCell _ _ _).from _, KpG.setAt (b := w.heap.size + 1 + 1 + 1) _ (by omega) (by omega) (by omega) _, ⟨by rw [HF.out]; exact b1.other (by omega) _, by rw [HF.out]; exact b2.other (by omega) _, by rw [HF.out]; exact b3.set _⟩, Below.setAt hB (b := w.heap.size + 1 + 1 + 1) (by omega) 0 _⟩
      · have HF := Lib.hid (show bestL n l (pre ++ [x]) = (rb, rm, rk) from by rw [HSN.out, HR.out]; unfold bestF; rw [if_neg (by simp [e1, HV.out]; omega), if_neg (by simp [HV.out]; omega)])
        have e3 : (v == rm) = false := by simp; omega
        clear e1
        gi_wp2
        exact ⟨KeepsFrom.refl _ _, ⟨Below.refl _ _, fun _ _ _ h _ => h⟩, ⟨by rw [HF.out]; exact b1, by rw [HF.out]; exact b2, by rw [HF.out]; exact b3⟩, hB⟩
  case done =>
    rintro D ys W hD rfl ⟨⟨b1, b2, b3⟩, hB⟩ hK
    have c1 := b1.cell
    have c2 := b2.cell
    have c3 := b3.cell
    rw [bestL_upTo n l want P hp] at c1 c2 c3
    gi_wp2
    gi_quiet (fail)
    gi_wp2
    have hK' : ∀ q, (W.drewN q).heap[D]? = some (.deferred (some [])) := fun _ => hK
    refine ⟨by simp, .inl ⟨_, _, rfl, run_takeDeferred (hK' _), ?_⟩⟩
    exact ⟨_, results_tmp3 rfl _ _ _, rfl, (pw_below_drewN hB _).trans (belowK_b (w := w) (Nat.le_refl _) _ D _ _ (by omega) (hK' _) rfl rfl)⟩
  case stop =>
    rintro D c pre W _ _ h _
    exact h.elim

end Go.Proofs.Ytkefmlhkejoknaa.L

/- What a graph that is in order says of its edges; the question for proper sides. -/
namespace Go.Proofs.Ytkefmlhkejoknaa.L
set_option linter.unusedVariables false
set_option linter.unusedSimpArgs false
open Go.RowKit Go.Shelf Go.Proofs.YtkefmlhkejoknaaW.PrintWords Go.Proofs.YtkefmlhkejoknaaW.PrintLast

theorem graphOk_n {n : Int} {l : List S49} (h : graphOk n l = true) : 1 ≤ n ∧ n ≤ 12 := by
  simp only [graphOk, Bool.and_eq_true] at h
  exact (inB_iff ..).1 h.1
theorem graphOk_len {n : Int} {l : List S49} (h : graphOk n l = true) : l.length ≤ 40 := by
  simp only [graphOk, Bool.and_eq_true, decide_eq_true_eq] at h
  exact h.2.1
theorem graphOk_edge {n : Int} {l : List S49} (h : graphOk n l = true) (k : Nat) (hk : k < l.length) : edgeOk n (rd_T49 l (k : Int)) = true ∧ hasEdge (l.take k) (rd_T49 l (k : Int)).f0 (rd_T49 l (k : Int)).f1 = false := by
  simp only [graphOk, Bool.and_eq_true] at h
  have := edgesOk_le n l (k + 1) (l.length - (k + 1)) (by rw [show k + 1 + (l.length - (k + 1)) = l.length from by omega]; exact h.2.2)
  rw [edgesOk_succ n l k hk] at this
  simp only [Bool.and_eq_true, Bool.not_eq_true'] at this
  exact this.2
theorem edgeOk_iff (n : Int) (e : S49) : edgeOk n e = true ↔ (1 ≤ e.f1 ∧ e.f1 ≤ n - 1) ∧ (0 ≤ e.f0 ∧ e.f0 ≤ e.f1 - 1) ∧ (-50 ≤ e.f2 ∧ e.f2 ≤ 50) := by
  simp only [edgeOk, Bool.and_eq_true, inB_iff]
theorem graphOk_edges {n : Int} {l : List S49} (h : graphOk n l = true) : EdgesIn n l := by
  intro k hk
  have := (edgeOk_iff ..).1 (graphOk_edge h k hk).1
  omega

theorem proper_want (n : Int) (ev : Value) (m : Nat) (w : World) (B : Nat) (hev : ev.oneCell' = true) (hn : n ≤ 12) (h0 : 1 ≤ n) : WantAt 66 #[gv n ev m] #[] B (properB n) w := by
  refine ⟨enters_of Try.func66 (by kernel_rfl) rfl, fun W _ s hs => ?_⟩
  have := proper_any n ev m s W hev hn h0 hs
  simp only [List.push_toArray, List.cons_append, List.nil_append, Array.append_empty]
  refine this.mono ?_
  rintro e W' ⟨rfl, rfl⟩
  exact ⟨rfl, below_alloc (below_alloc (Below.refl _ _) _) _⟩

end Go.Proofs.Ytkefmlhkejoknaa.L

/- Best and Count come to what belt_Best.f and belt_Count.f say. -/
namespace Go.Proofs.Ytkefmlhkejoknaa.L
set_option linter.unusedVariables false
set_option linter.unusedSimpArgs false
open Go.RowKit Go.Shelf Go.Proofs.YtkefmlhkejoknaaW.PrintWords Go.Proofs.YtkefmlhkejoknaaW.PrintLast

theorem pow12 (n : Int) (h0 : 1 ≤ n) (hn : n ≤ 12) (l : List S49) (want : Nat → Bool) : (bestB n l want (2 ^ n.toNat)).1 < 4096 := by
  have hp := pow_le n h0 hn
  have key : ∀ k, k ≤ 4096 → (bestB n l want k).1 < 4096 := by
    intro k
    induction k with
    | zero => intro _; simp [bestB]
    | succ k ih =>
      intro hk
      have := ih (by omega)
      simp only [bestB, bestStep]
      split
      · split
        · show k < 4096; omega
        · split
          · exact this
          · exact this
      · exact this
  exact key _ hp

set_option maxHeartbeats 1000000 in
theorem belt_Best.calls (a0 : Int) (A1 : Option Addr) (c1 : Nat) (l1 : List S49) (r1 : ByteArray) (r2 r3 : Int) (w : World) (hr1 : Kd.C k49 w A1 l1.length l1) (hc1 : l1.length ≤ c1) (h : belt_Best.f a0 l1 = some (r1, r2, r3)) :
    Calls Try.prog 24 #[.int .i64 a0, .slice A1 l1.length c1] w fun e w' => e = .returned (.tuple #[.string r1, .int .i64 r2, .int .i64 r3]) ∧ Below w.heap.size w w' := by
  have HC := Lib.hid hr1
  have HF := Lib.hid h
  clear hr1 h
  cases hg : graphOk a0 l1
  · have HG := Lib.hid hg
    clear hg
    go_enter Try.func24, Try.ntmps24
    go_wp2_with (go_at_call 64; refine (newGraph_any a0 A1 c1 l1 _ HC.out).mono ?_; rintro e w1 ⟨rfl, hb, _⟩; have hg := HG.out)
    go_ret3
    have e1 := HF.out
    rw [belt_Best.f, HG.out] at e1
    simp only [Bool.false_eq_true, if_false, Option.some.injEq, Prod.mk.injEq] at e1
    obtain ⟨rfl, rfl, rfl⟩ := e1
    exact ⟨rfl, below_alloc hb _⟩
  · obtain ⟨h0, hn⟩ := graphOk_n hg
    have hl := graphOk_len hg
    have HE := Lib.hid (graphOk_edges hg)
    have HG := Lib.hid hg
    clear hg
    have e1 := HF.out
    rw [belt_Best.f, HG.out] at e1
    simp only [if_true, Option.some.injEq, Prod.mk.injEq] at e1
    have HP := Lib.hid (pow12 a0 h0 hn l1 (properB a0))
    obtain ⟨E1, E2, E3⟩ := e1
    generalize hbb : bestB a0 l1 (properB a0) (2 ^ a0.toNat) = bb at E1 E2 E3 HP
    have HBB := Lib.hid hbb
    clear hbb
    subst E1 E2 E3
    have hp4 := HP.out
    go_enter Try.func24, Try.ntmps24
    go_wp2_with (first
      | (go_at_call 64; refine (newGraph_any a0 A1 c1 l1 _ HC.out).mono ?_; rintro e w1 ⟨rfl, hb, hm⟩; have hg := HG.out; have HB1 := Lib.hid hb; clear hm hb)
      | (go_at_call 65; refine (best_any a0 A1 c1 _ l1 66 _ #[] (properB a0) _ hn h0 hl HE.out (Kd.C_alloc (Kd.C_below HC.out HB1.out) _) (proper_want a0 _ _ _ _ rfl hn h0)).mono ?_; rintro e w2 ⟨rfl, hb⟩; have h2 := HBB.out; have HB2 := Lib.hid (below_cells hb); have HB3 := Lib.hid hb; clear hb; obtain ⟨hb4, _⟩ := HB2.out; have hb5 := HB3.out.size; simp only [World.size_alloc] at hb5)
      | (go_at_call 67; refine (text_any a0 _ _ _ _ rfl hn h0 hp4).mono ?_; rintro e w3 ⟨rfl, hb⟩; have HB4 := Lib.hid hb; clear hb))
    go_ret3
    refine ⟨rfl, ?_⟩
    have q1 := below_alloc HB1.out (gbox a0 (.slice A1 l1.length c1) (w.heap.size + 1))
    have q2 := below_then q1 q1.size HB3.out
    exact below_then q2 q2.size HB4.out

end Go.Proofs.Ytkefmlhkejoknaa.L
