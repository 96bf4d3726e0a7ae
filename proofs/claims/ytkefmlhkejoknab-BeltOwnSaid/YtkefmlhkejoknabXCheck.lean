/- Check comes to what belt_Check.f says. -/
import Derived.Test.YtkefmlhkejoknabXEnds
namespace Go.Proofs.Ytkefmlhkejoknab.L
set_option linter.unusedVariables false
set_option linter.unusedSimpArgs false
open Go.RowKit Go.Shelf Go.Proofs.YtkefmlhkejoknabW.PrintWords Go.Proofs.YtkefmlhkejoknabW.PrintLast Go.Proofs.YtkefmlhkejoknabW.PrintMore

/-- Check of lists that are not too long. -/
def belt_CheckG.f (n : Int) (l : List S46) (cs : List (List Int)) : Option (Int × Int) :=
  if cs.length ≤ 1000 ∧ (cs.all fun c => decide (c.length ≤ 100)) = true then belt_Check.f n l cs else none

/-- The entry of a pair that is used, the i-th one. -/
def entU (p : Int × Int) (i : Nat) : MapEntry := { key := pairV p.1 p.2, val := .bool true, born := i }
def entsU (ps : List (Int × Int)) : Array MapEntry := (ps.mapIdx fun i p => entU p i).toArray
def MapU (w : World) (m : Nat) (ps : List (Int × Int)) : Prop := w.heap[m]? = some (.map (entsU ps) ps.length)
section
variable {w w' : World} {m : Nat} {ps : List (Int × Int)}
theorem MapU.lt (h : MapU w m ps) : m < w.heap.size := (Array.getElem?_eq_some_iff.1 h).1
theorem MapU.alloc (h : MapU w m ps) (o : Obj) : MapU (w.alloc o) m ps := (Below.heap_alloc w o m h.lt).trans h
theorem MapU.below {B : Nat} (h : MapU w m ps) (hb : Below B w w') (hg : m < B) : MapU w' m ps := (hb.block m hg).trans h
theorem MapU.new (w : World) : MapU (w.alloc (.map #[] 0)) w.heap.size [] := World.alloc_heap_new w _
end
def findU (a b : Int) : List (Int × Int) → Nat → Option (Nat × Value)
  | [], _ => none
  | p :: ps, i => if (a == p.1 && b == p.2) = true then some (i, .bool true) else findU a b ps (i + 1)
theorem findU_some (a b : Int) (ps : List (Int × Int)) : ∀ i, (findU a b ps i = none ∧ ps.contains (a, b) = false) ∨ ∃ j, findU a b ps i = some (j, .bool true) ∧ ps.contains (a, b) = true := by
  induction ps with
  | nil => exact fun i => .inl ⟨rfl, rfl⟩
  | cons p ps ih =>
    intro i
    unfold findU
    by_cases h : (a == p.1 && b == p.2) = true
    · refine .inr ⟨i, by rw [if_pos h], ?_⟩
      simp only [Bool.and_eq_true, beq_iff_eq] at h
      rw [List.contains_iff_mem]
      have : (a, b) = p := Prod.ext h.1 h.2
      rw [this]; exact List.mem_cons_self
    · rw [if_neg h]
      have hne : ¬ (a, b) = p := fun e => h (by rw [← e]; simp)
      rcases ih (i + 1) with ⟨h1, h2⟩ | ⟨j, h1, h2⟩
      · refine .inl ⟨h1, ?_⟩
        rw [Bool.eq_false_iff] at h2 ⊢
        intro hc
        rw [List.contains_iff_mem, List.mem_cons] at hc
        rcases hc with hc | hc
        · exact hne hc
        · exact h2 (by rw [List.contains_iff_mem]; exact hc)
      · refine .inr ⟨j, h1, ?_⟩
        rw [List.contains_iff_mem] at h2 ⊢
        exact List.mem_cons_of_mem _ h2
theorem run_findAskingU (a b : Int) (w : World) : ∀ (ps : List (Int × Int)) (off i : Nat), (Instr.findAsking 68 (pairV a b) (ps.mapIdx fun j p => entU p (off + j)) i).run Try.prog w = .ok (findU a b ps i) w := by
  intro ps
  induction ps with
  | nil => intro off i; rfl
  | cons p ps ih =>
    intro off i
    simp only [List.mapIdx_cons, Instr.findAsking, Sem.run_bind]
    have : (entU p (off + 0)).key = pairV p.1 p.2 := rfl
    rw [this, equal_pair]
    simp only [Result.andThen_ok]
    unfold findU
    by_cases h : (a == p.1 && b == p.2) = true
    · rw [if_pos h, if_pos h]; rfl
    · rw [if_neg h, if_neg h]
      have e1 : (fun (j : Nat) (x : Int × Int) => entU x (off + (j + 1))) = fun j x => entU x (off + 1 + j) := by funext j x; rw [show off + (j + 1) = off + 1 + j from by omega]
      rw [e1]
      exact ih (off + 1) (i + 1)
theorem entsU_toList (ps : List (Int × Int)) : (entsU ps).toList = ps.mapIdx fun j p => entU p (0 + j) := by
  unfold entsU
  simp
theorem run_findKeyU (a b : Int) (ps : List (Int × Int)) (w : World) : (Instr.findKey 68 (pairV a b) (entsU ps).toList).run Try.prog w = .ok (findU a b ps 0) w := by
  unfold Instr.findKey
  simp only [Sem.run_bind, run_underlying Try.underlying68, Result.andThen_ok]
  cases ps with
  | nil => rfl
  | cons p ps =>
    have hn : ∀ d, Instr.findNow (.struct d) (pairV a b) (entsU (p :: ps)).toList 0 = none := fun d => by
      rw [entsU_toList, List.mapIdx_cons]; rfl
    rw [hn, entsU_toList]
    exact run_findAskingU a b w (p :: ps) 0 0
theorem under61 : Try.prog.underlying 61 = some (.map 68 4) := by kernel_rfl
theorem lookup_U {w : World} {m : Nat} {ps : List (Int × Int)} (h : MapU w m ps) (a b : Int) : (Instr.lookup 61 (.map (some m)) (pairV a b) false).run Try.prog w = .ok (.bool (ps.contains (a, b))) w := by
  have hz : (zeroValue 4).run Try.prog w = .ok (.bool false) w := by kernel_rfl
  have hg : (getObj m).run Try.prog w = .ok (.map (entsU ps) ps.length) w := by
    simp [getObj, Sem.run, show w.heap[m]? = _ from h]
  have hk := checkKey_pair (entsU ps).isEmpty a b w
  have hf := run_findKeyU a b ps w
  rcases findU_some a b ps 0 with ⟨h1, h2⟩ | ⟨j, h1, h2⟩
  · rw [h1] at hf
    simp only [Instr.lookup, Sem.run_bind, run_underlying under61, Result.andThen_ok, hg, Sem.run_pure, hk, hf, hz, h2]
    rfl
  · rw [h1] at hf
    simp only [Instr.lookup, Sem.run_bind, run_underlying under61, Result.andThen_ok, hg, Sem.run_pure, hk, hf, h2]
    rfl
theorem entsU_push (ps : List (Int × Int)) (p : Int × Int) : (entsU ps).push { key := pairV p.1 p.2, val := .bool true, born := ps.length } = entsU (ps ++ [p]) := by
  apply Array.ext'
  simp [entsU, List.mapIdx_append, entU]
theorem update_U {w : World} {m : Nat} {ps : List (Int × Int)} (h : MapU w m ps) (a b : Int) (hno : ps.contains (a, b) = false) :
    (Instr.mapUpdate 61 (.map (some m)) (pairV a b) (.bool true)).run Try.prog w = .ok () (w.putObj m (.map (entsU (ps ++ [(a, b)])) (ps ++ [(a, b)]).length)) := by
  have hg : (getObj m).run Try.prog w = .ok (.map (entsU ps) ps.length) w := by
    simp [getObj, Sem.run, show w.heap[m]? = _ from h]
  have hk := checkKey_pair false a b w
  have hf := run_findKeyU a b ps w
  rcases findU_some a b ps 0 with ⟨h1, h2⟩ | ⟨j, h1, h2⟩
  · rw [h1] at hf
    simp only [Instr.mapUpdate, Sem.run_bind, run_underlying under61, Result.andThen_ok, hg, hk, hf]
    have e := entsU_push ps (a, b)
    rw [show (entsU ps).push { key := pairV a b, val := .bool true, born := ps.length } = entsU (ps ++ [(a, b)]) from e, List.length_append]
    simp [setObj, Sem.run, show w.heap[m]? = _ from h, World.putObj]
  · rw [hno] at h2; cases h2
theorem MapU.put {w : World} {m : Nat} {ps ps' : List (Int × Int)} (h : MapU w m ps) : MapU (w.putObj m (.map (entsU ps') ps'.length)) m ps' := World.putObj_heap_same h.lt

/-- What is free, what is checked hangs on the members alone. -/
theorem freeB_congr (u u' : List (Int × Int)) (h : ∀ p, p ∈ u ↔ p ∈ u') (ps : List (Int × Int)) : freeB u ps = freeB u' ps := by
  induction ps generalizing u u' with
  | nil => rfl
  | cons p ps ih =>
    rw [freeB, freeB, ih (p :: u) (p :: u') (fun q => by rw [List.mem_cons, List.mem_cons, h q])]
    have : u.contains p = u'.contains p := by
      apply Bool.eq_iff_iff.2
      rw [List.contains_iff_mem, List.contains_iff_mem]; exact h p
    rw [this]
theorem checkB_congr (n : Int) (l : List S46) (cs : List (List Int)) (u u' : List (Int × Int)) (h : ∀ p, p ∈ u ↔ p ∈ u') : checkB n l cs u = checkB n l cs u' := by
  induction cs generalizing u u' with
  | nil => rfl
  | cons c cs ih =>
    rw [checkB, checkB, freeB_congr u u' h, ih (endsB c ++ u) (endsB c ++ u') (fun q => by rw [List.mem_append, List.mem_append, h q])]
theorem freeB_next (u ps : List (Int × Int)) (j : Nat) (hj : j < ps.length) : freeB u (ps.drop j) = (!u.contains (ps.getD j (0, 0)) && freeB (u ++ [ps.getD j (0, 0)]) (ps.drop (j + 1))) := by
  rw [List.drop_eq_getElem_cons hj, freeB]
  have e : ps.getD j (0, 0) = ps[j] := by rw [List.getD_eq_getElem?_getD, List.getElem?_eq_getElem hj]; rfl
  rw [e, freeB_congr (ps[j] :: u) (u ++ [ps[j]]) (fun q => by simp [or_comm])]

theorem kP_row {W : World} {base mU : Nat} {v : Value} {ps : List (Int × Int)} (hR : Kd.R kP 68 W base (fun k => True ∧ k ≠ mU) v ps) (o : Obj) : Kd.R kP 68 (W.putObj mU o) base (fun k => True ∧ k ≠ mU) v ps :=
  Kd.R_step hR (fun k hk _ => World.putObj_heap_other hk.2)
set_option maxHeartbeats 8000000 in
set_option maxRecDepth 100000 in
theorem belt_CheckG.calls (a0 : Int) (A1 : Option Addr) (c1 : Nat) (l1 : List S46) (A2 : Option Addr) (c2 : Nat) (l2 : List (List Int)) (r1 r2 : Int) (w : World) (hr1 : Kd.C k46 w A1 l1.length l1) (hc1 : l1.length ≤ c1) (hr2 : Kd.C (Kd.slice 3 (Kd.int .i64)) w A2 l2.length l2) (hc2 : l2.length ≤ c2) (h : belt_CheckG.f a0 l1 l2 = some (r1, r2)) :
    Calls Try.prog 12 #[.int .i64 a0, .slice A1 l1.length c1, .slice A2 l2.length c2] w fun e w' => e = .returned (.tuple #[.int .i64 r1, .int .i64 r2]) ∧ Below w.heap.size w w' := by
  have HC := Lib.hid hr1
  have HD := Lib.hid hr2
  rw [belt_CheckG.f] at h
  by_cases hgd : l2.length ≤ 1000 ∧ (l2.all fun c => decide (c.length ≤ 100)) = true
  case neg => rw [if_neg hgd] at h; cases h
  rw [if_pos hgd, belt_Check.f] at h
  obtain ⟨hlen, hall⟩ := hgd
  have HALL := Lib.hid hall
  have HF := Lib.hid h
  clear hr1 hr2 h hall
  cases hg : graphOk a0 l1
  · have HG := Lib.hid hg
    clear hg
    go_enter Try.func12, Try.ntmps12
    go_wp2_with (go_at_call 23; refine (newGraph_any a0 A1 c1 l1 _ HC.out).mono ?_; rintro e w1 ⟨rfl, hb, _⟩; have hg := HG.out)
    go_ret2
    have e1 := HF.out
    rw [HG.out] at e1
    simp only [Bool.false_eq_true, if_false, Option.some.injEq, Prod.mk.injEq] at e1
    obtain ⟨rfl, rfl⟩ := e1
    exact ⟨rfl, below_alloc hb _⟩
  · obtain ⟨h0, hn⟩ := graphOk_n hg
    have HG := Lib.hid hg
    clear hg
    have e1 := HF.out
    rw [HG.out] at e1
    simp only [if_true, Option.some.injEq] at e1
    have H1 := Lib.hid e1
    clear e1
    have hmm := @run_makeMap Try.prog
    go_enter Try.func12, Try.ntmps12
    go_wp2_with (go_at_call 23; refine (newGraph_any a0 A1 c1 l1 _ HC.out).mono ?_; rintro e w1 ⟨rfl, hb, hm⟩; have hg := HG.out; have HM := Lib.hid (hm hg); have HB := Lib.hid hb; clear hm hb)
    have hmlt := HM.out.lt
    have hB0 : Below w.heap.size w ((w1.alloc (gbox a0 (.slice A1 l1.length c1) (w.heap.size + 1))).alloc (.map #[] 0)) := below_alloc (below_alloc HB.out _) _
    have hG0 : Whole ((w1.alloc (gbox a0 (.slice A1 l1.length c1) (w.heap.size + 1))).alloc (.map #[] 0)) w1.heap.size 52 #[.int .i64 a0, .slice A1 l1.length c1, .map (some (w.heap.size + 1))] := (Whole.new w1 52 _).alloc _
    have hU0 : MapU ((w1.alloc (gbox a0 (.slice A1 l1.length c1) (w.heap.size + 1))).alloc (.map #[] 0)) (w1.heap.size + 1) [] := by
      have := MapU.new (w1.alloc (gbox a0 (.slice A1 l1.length c1) (w.heap.size + 1)))
      simpa using this
    have hM0 : MapIs ((w1.alloc (gbox a0 (.slice A1 l1.length c1) (w.heap.size + 1))).alloc (.map #[] 0)) (w.heap.size + 1) l1 := (HM.out.alloc _).alloc _
    have hs1 : w.heap.size ≤ w1.heap.size := HB.out.size
    generalize ((w1.alloc (Obj.cells #[.int .i64 a0, .slice A1 l1.length c1, .map (some (w.heap.size + 1))] 52)).alloc (.map #[] 0)) = W0 at hB0 hG0 hU0 hM0 ⊢
    generalize w1.heap.size = gB at hG0 hU0 hs1 hmlt ⊢
    clear hmm HM HB
    go_loopw [26] (fun iv wr => ∃ (k : Nat) (U : List (Int × Int)), k ≤ l2.length ∧ iv = .int .i64 k ∧ Below w.heap.size w wr ∧ Whole wr gB 52 #[.int .i64 a0, .slice A1 l1.length c1, .map (some (w.heap.size + 1))] ∧ MapU wr (gB + 1) U ∧ MapIs wr (w.heap.size + 1) l1 ∧ Hid (checkB a0 l1 (l2.drop k) U = checkB a0 l1 l2 [])) (fun iv _ => l2.length - (intOf iv).toNat)
    case atStart => exact ⟨0, [], Nat.zero_le _, rfl, hB0, hG0, hU0, hM0, Lib.hid rfl⟩
    case round =>
      obtain ⟨k, U, hk, rfl, hB, hG, hU, hM, HCK⟩ := hrel
      by_cases hlt : k < l2.length
      · obtain ⟨ad, A0, c0, rfl, hcell, hcc, hCk⟩ := at_L3 (Kd.C_below HD.out hB) (k : Int) (by omega) (by omega)
        simp only [Int.toNat_natCast] at hcell
        have hrdk : rd_L3 l2 (k : Int) = l2[k] := by simp [rd_L3, List.getElem?_eq_getElem hlt]
        have hlc : (rd_L3 l2 (k : Int)).length ≤ 100 := by
          rw [hrdk]
          have := (List.all_eq_true.1 HALL.out) _ (List.getElem_mem hlt)
          simpa using this
        have hck : checkB a0 l1 l2 [] = (isCycleB a0 l1 (rd_L3 l2 (k : Int)) && freeB U (endsB (rd_L3 l2 (k : Int))) && checkB a0 l1 (l2.drop (k + 1)) (endsB (rd_L3 l2 (k : Int)) ++ U)) := by
          rw [← HCK.out, List.drop_eq_getElem_cons hlt, hrdk]; rfl
        generalize rd_L3 l2 (k : Int) = c at hcell hcc hCk hlc hck
        clear hrdk
        have HCK2 := Lib.hid hck
        have HCc := Lib.hid hCk
        have HB := Lib.hid hB
        have HGw := Lib.hid hG
        have HU := Lib.hid hU
        have HMm := Lib.hid hM
        have g0 := hG.cell 0
        have g1 := hG.cell 1
        have g2 := hG.cell 2
        simp only [List.getElem?_toArray, List.getElem?_cons_zero, List.getElem?_cons_succ] at g0 g1 g2
        have hltw := hG.lt
        clear hck hCk hB hG hU hM
        cases hcy : isCycleB a0 l1 c
        · have HCY := Lib.hid hcy
          have e1 := H1.out
          rw [HCK2.out, hcy] at e1
          simp only [Bool.false_and, Bool.false_eq_true, if_false, Prod.mk.injEq] at e1
          obtain ⟨rfl, rfl⟩ := e1
          clear hcy
          go_wp2_with (go_at_call 39; refine (isCycle_any a0 A1 l1.length c1 (w.heap.size + 1) l1 A0 c0 c _ hn h0 hlc hcc HCc.out HMm.out).mono ?_; rintro e w2 ⟨rfl, hb⟩; have hcy := HCY.out; have HB2 := Lib.hid hb; clear hb)
          go_ret2
          exact ⟨rfl, below_then HB.out HB.out.size HB2.out⟩
        · have HCY := Lib.hid hcy
          have hc3 : 3 ≤ c.length := by
            unfold isCycleB at hcy
            simp only [Bool.and_eq_true, decide_eq_true_eq] at hcy
            exact hcy.1.1.1.1
          clear hcy
          obtain ⟨ad2, rfl, _⟩ := Kd.at_int HCc.out ((0 : Nat) : Int) (by omega) (by omega)
          have hle : ((endsB c).length : Int) = c.length := by rw [endsB_len]
          go_wp2_with (first
            | (go_at_call 39; refine (isCycle_any a0 A1 l1.length c1 (w.heap.size + 1) l1 (some ad2) c0 c _ hn h0 hlc hcc HCc.out HMm.out).mono ?_; rintro e w2 ⟨rfl, hb⟩; have hcy := HCY.out; have HB2 := Lib.hid hb; clear hb)
            | (go_at_call 30; refine (ends_any ad2 c0 c _ (by omega) (by omega) (Kd.C_below HCc.out HB2.out)).mono ?_; rintro e w3 ⟨v_, rfl, hR, hb⟩; obtain ⟨A3, c3, hv3⟩ := Kd.R_slice hR; subst hv3; have HR3 := Lib.hid hR; have HB3 := Lib.hid hb; clear hR hb))
          have q1 := below_then HB.out HB.out.size HB2.out
          have q2 := below_then q1 q1.size HB3.out
          have G2 := HGw.out.below HB2.out HGw.out.lt
          have G3 := G2.below HB3.out G2.lt
          have U2 := HU.out.below HB2.out HU.out.lt
          have U3 := U2.below HB3.out U2.lt
          have M2 := HMm.out.below HB2.out HMm.out.lt
          have M3 := M2.below HB3.out M2.lt
          have R3 := Kd.R_newB HR3.out (show w2.heap[gB + 1]? = some _ from U2)
          have HQ2 := Lib.hid q2
          have HFR := Lib.hid (rfl : freeB (U ++ (endsB c).take 0) ((endsB c).drop 0) = freeB (U ++ (endsB c).take 0) ((endsB c).drop 0))
          go_loopw [37] (fun jv wr2 => ∃ (j : Nat), j ≤ (endsB c).length ∧ jv = .int .i64 j ∧ Below w.heap.size w wr2 ∧ Whole wr2 gB 52 #[.int .i64 a0, .slice A1 l1.length c1, .map (some (w.heap.size + 1))] ∧ MapU wr2 (gB + 1) (U ++ (endsB c).take j) ∧ MapIs wr2 (w.heap.size + 1) l1 ∧ Kd.R kP 68 wr2 w2.heap.size (fun k => True ∧ k ≠ gB + 1) (.slice A3 (endsB c).length c3) (endsB c) ∧ Hid (freeB (U ++ (endsB c).take j) ((endsB c).drop j) = freeB U (endsB c))) (fun jv _ => (endsB c).length - (intOf jv).toNat)
          case atStart => exact ⟨0, Nat.zero_le _, rfl, q2, G3, by simpa using U3, M3, R3, Lib.hid (by simp)⟩
          case round =>
            obtain ⟨j, hj, rfl, hB4, hG4, hU4, hM4, hR4, HFJ⟩ := hrel
            by_cases hjl : j < (endsB c).length
            · obtain ⟨ad4, rfl, hp0, hp1⟩ := at_P (Kd.R_reads' hR4).2.2 (j : Int) (by omega) (by omega)
              simp only [Int.toNat_natCast] at hp0 hp1
              have htk : (endsB c).take (j + 1) = (endsB c).take j ++ [(endsB c).getD j (0, 0)] := by
                rw [List.take_succ_eq_append_getElem hjl, List.getD_eq_getElem?_getD, List.getElem?_eq_getElem hjl]; rfl
              have hnx := freeB_next (U ++ (endsB c).take j) (endsB c) j hjl
              rw [HFJ.out] at hnx
              generalize (endsB c).getD j (0, 0) = p at hp0 hp1 htk hnx
              obtain ⟨xa, xb⟩ := p
              dsimp only at hp0 hp1
              have U5 := hU4.alloc (.cells #[.int .i64 xa, .int .i64 xb] 68)
              have hl := lookup_U U5 xa xb
              have HNX := Lib.hid hnx
              have HTK := Lib.hid htk
              have HB4 := Lib.hid hB4
              have HG4 := Lib.hid hG4
              have HU5 := Lib.hid U5
              have HM4 := Lib.hid hM4
              have HR4 := Lib.hid hR4
              have hjn : (j : Int) < (endsB c).length := by omega
              have hjc : j < c.length := by rw [endsB_len] at hjl; exact hjl
              clear hnx htk hB4 hG4 U5 hM4 hR4 hU4 g0 g1 g2
              cases hq : (U ++ (endsB c).take j).contains (xa, xb)
              · rw [hq] at hl
                have hu := update_U HU5.out xa xb hq
                have HN2 := Lib.hid (show freeB (U ++ (endsB c).take (j + 1)) ((endsB c).drop (j + 1)) = freeB U (endsB c) from by
                  have := HNX.out
                  rw [hq] at this
                  rw [this, HTK.out, List.append_assoc]; rfl)
                clear hq
                go_wp2
                refine ⟨⟨j + 1, by omega, by go_num, Below.putObj (below_alloc HB4.out _) (by omega) _, (HG4.out.alloc _).putObj (by omega) _, ?_, (World.putObj_heap_other (by omega)).trans (HM4.out.alloc _), kP_row (Kd.R_alloc HR4.out _) _, HN2⟩, by simp [intOf]; omega⟩
                rw [HTK.out, ← List.append_assoc]
                have hln : (U ++ (endsB c).take j ++ [(xa, xb)]).length = U.length + (j + 1) := by simp; omega
                rw [← hln]
                exact HU5.out.put
              · rw [hq] at hl
                have e1 := H1.out
                have hf : freeB U (endsB c) = false := by
                  have := HNX.out
                  rw [hq] at this
                  rw [this]; rfl
                rw [HCK2.out, HCY.out, hf] at e1
                simp only [Bool.true_and, Bool.false_and, Bool.false_eq_true, if_false, Prod.mk.injEq] at e1
                obtain ⟨rfl, rfl⟩ := e1
                clear hq hf
                go_wp2
                go_ret2
                exact ⟨rfl, below_alloc HB4.out _⟩
            · obtain rfl : j = (endsB c).length := by omega
              have hf := HFJ.out
              rw [List.drop_of_length_le (Nat.le_refl _), freeB] at hf
              rw [List.take_length] at hU4
              have HN := Lib.hid (show checkB a0 l1 (l2.drop (k + 1)) (U ++ endsB c) = checkB a0 l1 l2 [] from by
                rw [HCK2.out, HCY.out, ← hf, Bool.true_and, Bool.true_and]
                exact checkB_congr a0 l1 _ _ _ (fun q => by rw [List.mem_append, List.mem_append]; exact or_comm))
              clear hf
              go_wp2
              exact ⟨⟨k + 1, U ++ endsB c, by omega, by go_num, hB4, hG4, hU4, hM4, HN⟩, by simp [intOf]; omega⟩
      · obtain rfl : k = l2.length := by omega
        have e1 := H1.out
        rw [← HCK.out, List.drop_of_length_le (Nat.le_refl _), checkB] at e1
        simp only [if_true, Prod.mk.injEq] at e1
        obtain ⟨rfl, rfl⟩ := e1
        go_wp2
        go_ret2
        exact ⟨rfl, hB⟩

end Go.Proofs.Ytkefmlhkejoknab.L
