/- Plain law: the law BeltBalances. -/
import Derived.Test.YtkefmlhkejoknaaP12
import Derived.Test.YtkefmlhkejoknaaP6
import Derived.Test.YtkefmlhkejoknaaL26
namespace Go.Proofs.Ytkefmlhkejoknaa.L
set_option linter.unusedVariables false
set_option linter.unusedSimpArgs false
open Go.RowKit Go.Proofs.YtkefmlhkejoknaaW.PrintWords Go.Proofs.YtkefmlhkejoknaaW.PrintLast Go.Proofs.YtkefmlhkejoknaaW.PrintMore

theorem char_one (N s v : Nat) (hv : v < N) : (bt (textB (N : Int) s) (v : Int) - 48) % 256 = if hasB N s (v : Int) then 1 else 0 := by
  rw [bt_text N s (v : Int) (by omega) (by omega)]
  cases hasB N s (v : Int) <;> rfl
theorem text_ne (N s : Nat) (h0 : 1 ≤ N) : (textB (N : Int) s).toList ≠ [] := by
  intro h
  have := text_size N s
  rw [ByteArray.toList_eq] at h
  have h2 : (textB (N : Int) s).data.toList.length = N := this
  rw [h] at h2
  simp at h2
  omega
/-- The reference's state behind i sides. -/
def balSt (N : Nat) (l : List S49) (want : Nat → Bool) (i : Nat) : ByteArray × Int := if (bestB N l want i).2.2 = 0 then (⟨#[]⟩, 0) else (textB N (bestB N l want i).1, (bestB N l want i).2.1)
theorem bal_step (N : Nat) (h0 : 1 ≤ N) (l : List S49) (want : Nat → Bool) (i : Nat) : balSt N l want (i + 1) = if want i then (if (balSt N l want i).1.toList = ([] : List UInt8) then (textB N i, valB N i l) else if valB N i l > (balSt N l want i).2 then (textB N i, valB N i l) else balSt N l want i) else balSt N l want i := by
  have hb := (best_max N l want i).1
  unfold balSt
  rw [bestB]
  generalize bestB N l want i = r at hb
  cases hw : want i
  · have e : bestStep N l want r i = r := by unfold bestStep; rw [hw]; simp
    rw [e]
    simp only [Bool.false_eq_true, if_false]
  · simp only [if_true]
    by_cases hz : r.2.2 = 0
    · have e : bestStep N l want r i = (i, valB N i l, 1) := by unfold bestStep; rw [hw, if_pos rfl, if_pos (.inl hz)]
      rw [e, if_neg (show ¬ (1 : Int) = 0 by decide), if_pos hz, if_pos (by simp [ByteArray.toList_eq])]
    · rw [if_neg hz, if_neg (text_ne N _ h0)]
      by_cases hv : valB N i l > r.2.1
      · have e : bestStep N l want r i = (i, valB N i l, 1) := by unfold bestStep; rw [hw, if_pos rfl, if_pos (.inr hv)]
        rw [e, if_neg (show ¬ (1 : Int) = 0 by decide), if_pos hv]
      · rw [if_neg hv]
        by_cases he : valB N i l = r.2.1
        · have e : bestStep N l want r i = (r.1, r.2.1, r.2.2 + 1) := by unfold bestStep; rw [hw, if_pos rfl, if_neg (by rintro (h | h); exact hz h; exact hv h), if_pos he]
          rw [e, if_neg (show ¬ r.2.2 + 1 = 0 by omega)]
        · have e : bestStep N l want r i = r := by unfold bestStep; rw [hw, if_pos rfl, if_neg (by rintro (h | h); exact hz h; exact hv h), if_neg he]
          rw [e, if_neg hz]
theorem bal_l1 (N s : Nat) (hs : s < 2 ^ N) (hN : N ≤ 12) (l : List S49) (kk : Int) (b : ByteArray) (v : Int) (r : ByteArray × Int)
    (hr : Ev (fun k => ((remouldref05_Value.f k l (textB N s)).bind fun t490 => (if onesTo N s N = kk then (if b.toList = ([] : List UInt8) then (remouldref05_Balanced.l0 k N l kk (strs N) (textB N s) t490 ((s + 1 : Nat) : Int)) else (if t490 > v then (remouldref05_Balanced.l0 k N l kk (strs N) (textB N s) t490 ((s + 1 : Nat) : Int)) else (remouldref05_Balanced.l0 k N l kk (strs N) b v ((s + 1 : Nat) : Int)))) else (remouldref05_Balanced.l0 k N l kk (strs N) b v ((s + 1 : Nat) : Int))))) r) :
    ∀ d j : Nat, j + d = N → Ev (fun k => remouldref05_Balanced.l1 k N l kk (strs N) b v (s : Int) (onesTo N s j) (j : Int)) r := by
  have hlen := strs_length N
  have hp : 2 ^ N ≤ 2 ^ 12 := Nat.pow_le_pow_right (by omega) hN
  have hat := strs_at N s hs
  intro d
  induction d with
  | zero =>
    intro j hj
    obtain rfl : j = N := by omega
    refine Ev.step (fun k => ?_) hr
    rw [remouldref05_Balanced.l1, if_neg (by omega), if_pos (by omega), if_pos (by omega), hat, wrap64_id ((s : Int) + 1) (by omega) (by omega)]
    rfl
  | succ d ih =>
    intro j hj
    have hlt : j < N := by omega
    have ho := onesTo_le N s j
    have ih' := ih (j + 1) (by omega)
    refine Ev.step (fun k => ?_) ih'
    rw [remouldref05_Balanced.l1, if_pos (by omega), if_pos (by omega), if_pos (by omega), if_pos (by omega), hat, text_size, if_pos (by omega), char_one N s j hlt, wrap64_id ((j : Int) + 1) (by omega) (by omega), wrap64_id (onesTo N s j + _) (by split <;> omega) (by split <;> omega)]
    rfl
theorem bal_l0 (N : Nat) (h0 : 1 ≤ N) (hN : N ≤ 12) (l : List S49) (hl : l.length ≤ 41) (hE : EdgesIn N l) (kk : Int) : ∀ d i : Nat, i + d = 2 ^ N →
    Ev (fun k => remouldref05_Balanced.l0 k N l kk (strs N) (balSt N l (fun s => (onesB s : Int) == kk) i).1 (balSt N l (fun s => (onesB s : Int) == kk) i).2 (i : Int)) (balSt N l (fun s => (onesB s : Int) == kk) (2 ^ N)) := by
  have hlen := strs_length N
  intro d
  induction d with
  | zero =>
    intro i hi
    obtain rfl : i = 2 ^ N := by omega
    exact Ev.step (fun k => by rw [remouldref05_Balanced.l0, if_neg (by omega)]) (Ev.const _)
  | succ d ih =>
    intro i hi
    have hlt : i < 2 ^ N := by omega
    have ih' := ih (i + 1) (by omega)
    rw [bal_step N h0] at ih'
    refine Ev.step (fun k => by rw [remouldref05_Balanced.l0, if_pos (by omega)]) ?_
    refine bal_l1 N i hlt hN l kk _ _ _ ?_ N 0 (by omega)
    refine Ev.bind (value_f N i l hl hE) ?_
    have hon := onesTo_all N i hN hlt
    by_cases hk : (onesB i : Int) = kk
    · rw [if_pos (by simpa using hk)] at ih'
      refine Ev.congr (fun k => if_pos (by rw [hon]; exact hk)) ?_
      by_cases he : (balSt N l (fun s => (onesB s : Int) == kk) i).1.toList = ([] : List UInt8)
      · rw [if_pos he] at ih'
        exact Ev.congr (fun k => if_pos he) ih'
      · rw [if_neg he] at ih'
        refine Ev.congr (fun k => if_neg he) ?_
        by_cases hv : valB N i l > (balSt N l (fun s => (onesB s : Int) == kk) i).2
        · rw [if_pos hv] at ih'
          exact Ev.congr (fun k => if_pos hv) ih'
        · rw [if_neg hv] at ih'
          exact Ev.congr (fun k => if_neg hv) ih'
    · rw [if_neg (by simpa using hk)] at ih'
      exact Ev.congr (fun k => if_neg (by rw [hon]; exact hk)) ih'
theorem rbal_f (N : Nat) (h0 : 1 ≤ N) (hN : N ≤ 12) (l : List S49) (hl : l.length ≤ 41) (hE : EdgesIn N l) (k : Nat) (hk : k ≤ N) :
    Ev (fun f => remouldref05_Balanced.f f N l (k : Int)) (textB N (bestB N l (fun s => (onesB s : Int) == (k : Int)) (2 ^ N)).1, (bestB N l (fun s => (onesB s : Int) == (k : Int)) (2 ^ N)).2.1) := by
  obtain ⟨hz, _⟩ := balanced_is N hN l k hk
  have h := bal_l0 N h0 hN l hl hE (k : Int) (2 ^ N) 0 (by omega)
  have e : balSt N l (fun s => (onesB s : Int) == (k : Int)) (2 ^ N) = (textB N (bestB N l (fun s => (onesB s : Int) == (k : Int)) (2 ^ N)).1, (bestB N l (fun s => (onesB s : Int) == (k : Int)) (2 ^ N)).2.1) := by
    unfold balSt; rw [if_neg hz]
  rw [e] at h
  exact Ev.bind (all_f (N : Int) (by omega) (by omega)) h
theorem pureBalances (a0 : Int) (l1 : List S49) (a2 : Int) : ∃ k, remouldlaw05_BeltBalances.f k a0 l1 a2 = some true := by
  apply Ev.get
  have hl : (l1.take 41).length ≤ 41 := by simp; omega
  have hg := graph_f a0 (l1.take 41) hl
  have e0 : Ev (fun _ : Nat => remouldlaw05_edges.f l1) (l1.take 41) := ⟨0, fun _ _ => edges_f l1⟩
  refine Ev.bind e0 ?_
  generalize l1.take 41 = x at hl hg
  have haw : Ev (fun k => (remouldlaw05_awake.f k).bind fun t => some t) true := Ev.bind awake_f (Ev.const true)
  have hbad : Ev (fun k => remouldlaw05_BeltBalances.j0 k a0 a2 x ⟨#[]⟩ 0 2 true) true := by
    refine Ev.step (fun k => by rw [remouldlaw05_BeltBalances.j0, if_pos rfl]) ?_
    exact Ev.congr (h := fun k => (remouldlaw05_awake.f k).bind fun t => some t) (fun k => by simp [ByteArray.toList_eq]) haw
  cases h : graphOk a0 x
  · rw [h] at hg
    have b1 : Ev (fun _ : Nat => belt_Balanced.f a0 x a2) (⟨#[]⟩, 0, 2) := ⟨0, fun _ _ => by rw [belt_Balanced.f, h]; rfl⟩
    refine Ev.bind b1 (Ev.bind hg ?_)
    exact Ev.congr (fun k => if_neg (by decide)) hbad
  · rw [h] at hg
    obtain ⟨h0, hn⟩ := graphOk_n h
    by_cases c1 : a2 < 0
    · have b1 : Ev (fun _ : Nat => belt_Balanced.f a0 x a2) (⟨#[]⟩, 0, 2) := ⟨0, fun _ _ => by rw [belt_Balanced.f, h, decide_eq_false (show ¬ 0 ≤ a2 by omega)]; rfl⟩
      refine Ev.bind b1 (Ev.bind hg ?_)
      exact Ev.congr (fun k => if_pos rfl) (Ev.congr (fun k => if_pos c1) hbad)
    · by_cases c2 : a2 > a0
      · have b1 : Ev (fun _ : Nat => belt_Balanced.f a0 x a2) (⟨#[]⟩, 0, 2) := ⟨0, fun _ _ => by rw [belt_Balanced.f, h, decide_eq_true (show 0 ≤ a2 by omega), decide_eq_false (show ¬ a2 ≤ a0 by omega)]; rfl⟩
        refine Ev.bind b1 (Ev.bind hg ?_)
        exact Ev.congr (fun k => if_pos rfl) (Ev.congr (fun k => by rw [if_neg c1, decide_eq_true c2]) hbad)
      · obtain ⟨N, rfl⟩ := Int.eq_ofNat_of_zero_le (show 0 ≤ a0 by omega)
        obtain ⟨kk, rfl⟩ := Int.eq_ofNat_of_zero_le (show 0 ≤ a2 by omega)
        have hb := rbal_f N (by omega) (by omega) x hl (graphOk_edges h) kk (by omega)
        have b1 : Ev (fun _ : Nat => belt_Balanced.f N x kk) (textB N (bestB N x (fun s => (onesB s : Int) == (kk : Int)) (2 ^ N)).1, (bestB N x (fun s => (onesB s : Int) == (kk : Int)) (2 ^ N)).2.1, 0) := ⟨0, fun _ _ => by rw [belt_Balanced.f, h, decide_eq_true (show (0 : Int) ≤ kk by omega), decide_eq_true (show (kk : Int) ≤ N by omega)]; rfl⟩
        refine Ev.bind b1 (Ev.bind hg ?_)
        refine Ev.congr (fun k => if_pos rfl) (Ev.congr (fun k => by rw [if_neg c1, decide_eq_false c2]) ?_)
        refine Ev.step (fun k => by rw [remouldlaw05_BeltBalances.j0, if_neg (by decide)]) (Ev.bind hb ?_)
        exact Ev.congr (fun k => if_pos rfl) (Ev.congr (fun k => if_pos rfl) (Ev.congr (fun k => if_pos rfl) haw))

end Go.Proofs.Ytkefmlhkejoknaa.L
