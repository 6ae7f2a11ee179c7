/- The reference's space: Read, Write, Words, Fill, Copy. -/
import Derived.Test.YtmalmkccgjeboaaDoorWH
set_option linter.unusedVariables false
set_option linter.unusedSimpArgs false
namespace Go.Proofs.YtmalmkccgjeboaaDoor
open Go.RowKit

/-- A slice of ints reads as f. -/
def ReadsV (w : World) (v : Value) (n : Nat) (f : Nat → Int) : Prop := ∃ A c, v = .slice A n c ∧ (0 < n → ∃ ad, A = some ad ∧ ∀ j, j < n → w.cell? (ad.add j) = some (.int .i64 (f j)))
theorem ReadsV.still {w w' : World} {v : Value} {n : Nat} {f : Nat → Int} (h : ReadsV w v n f) (ho : Only [] w w') : ReadsV w' v n f := by
  obtain ⟨A, c, rfl, h⟩ := h
  refine ⟨A, c, rfl, fun h0 => ?_⟩
  obtain ⟨ad, rfl, hc⟩ := h h0
  exact ⟨ad, rfl, fun j hj => (ho.cell (World.block_lt_of_cell? w _ (hc j hj)) (by simp)).trans (hc j hj)⟩
def wl (f : Nat → Int) (n : Nat) : List Value := (List.range n).map fun k => .int .i64 (f k)
theorem wl_succ (f : Nat → Int) (n : Nat) : wl f (n + 1) = wl f n ++ [.int .i64 (f n)] := by unfold wl; rw [List.range_succ, List.map_append]; rfl
theorem add0 (g j : Nat) : (⟨g, 0, none⟩ : Addr).add j = ⟨g, j, none⟩ := by
  unfold Addr.add
  split
  · rename_i h0; rw [h0]
  · simp
theorem own_readsV {w : World} {base n : Nat} {v : Value} {e : TypeId} {f : Nat → Int} (h : w.ownsRow base e 1 v n (wl f n)) : ReadsV w v n f := by
  rcases h.2 with ⟨rfl, h0⟩ | ⟨g, cap, cur, rfl, hb, hh, h1, h2, h3, ht⟩
  · exact ⟨none, 0, by rw [h0], fun h => absurd h (by omega)⟩
  · refine ⟨_, cap, rfl, fun _ => ⟨_, rfl, fun j hj => ?_⟩⟩
    have hB : Blk w g e cur := hh
    rw [add0]
    refine hB.cell_ j ?_
    have : (wl f n)[j]? = some (.int .i64 (f j)) := by unfold wl; simp [hj]
    rw [← ht, List.getElem?_take, if_pos (by omega), Array.getElem?_toList] at this
    exact this
theorem IntsAt.readsV {w : World} {base : Nat} {A : Option Addr} {n c : Nat} {f : Nat → Int} (h : IntsAt w base A n f) : ReadsV w (.slice A n c) n f := by
  obtain ⟨g, rfl, _, hr⟩ := h
  exact ⟨_, c, rfl, fun _ => ⟨_, rfl, fun j hj => by rw [add0]; exact hr.cell hj⟩⟩

section
variable {w : World} {p q1 q2 c1 c2 : Nat} {m : SpM}

set_option maxHeartbeats 1600000 in
theorem xRead (h : RefAt w p q1 q2 c1 c2 m) (addr : Int) (ha : I64 addr) :
    Still Tryd.prog 54 #[.pointer (some ⟨p, 0, none⟩), .int .i64 addr] w (.tuple #[.int .i64 (if m.acc addr 1 = 0 then m.h (addr / 8) else 0), .int .i64 (m.acc addr 1)]) := by
  have CM := Lib.hid (xmade h)
  have CC := xcan h addr 1 ha (by omega) (by omega)
  rcases SpM.acc_07 m addr 1 with h0 | h0
  · obtain ⟨a1, a2, a3, _⟩ := SpM.acc_ok (by omega) h0
    rw [decide_eq_true h0] at CC
    rw [if_pos h0, h0]
    have HC := Lib.hid CC
    obtain ⟨na, hna⟩ : ∃ na : Nat, addr / 8 = na := ⟨(addr / 8).toNat, by omega⟩
    have t1 : addr.tdiv 8 = na := by rw [Int.tdiv_eq_ediv_of_nonneg a1]; exact hna
    have hnn : na < 32 * m.n := by omega
    rw [hna]
    have z1 := h.blk.cell_ 1 rfl
    have y0 := h.hds.cell (k := na) hnn
    have hk2 := h.k2
    have n2 := h.n2
    clear h CC h0 hna
    generalize m.h na = x at *
    generalize m.n = n at *
    go_enter Tryd.func54, Tryd.ntmps54
    go_wp2_with (first | (go_at_call 50; with_reducible refine Still.use CM.out ?_) | (go_at_call 73; with_reducible refine Still.use HC.out ?_))
    go_ret2
    exact ⟨rfl, rfl⟩
  · have hne : ¬ m.acc addr 1 = 0 := by omega
    rw [decide_eq_false hne] at CC
    rw [if_neg hne, h0]
    have HC := Lib.hid CC
    clear h CC h0 hne
    go_enter Tryd.func54, Tryd.ntmps54
    go_wp2_with (first | (go_at_call 50; with_reducible refine Still.use CM.out ?_) | (go_at_call 73; with_reducible refine Still.use HC.out ?_))
    go_ret2
    exact ⟨rfl, rfl⟩

set_option maxHeartbeats 1600000 in
theorem xWrite (h : RefAt w p q1 q2 c1 c2 m) (addr v : Int) (ha : I64 addr) :
    Calls Tryd.prog 55 #[.pointer (some ⟨p, 0, none⟩), .int .i64 addr, .int .i64 v] w fun e w' => e = .returned (.int .i64 (m.acc addr 1)) ∧ Only [p, q1, q2] w w' ∧ RefAt w' p q1 q2 c1 c2 (m.writeM addr v) := by
  have CM := Lib.hid (xmade h)
  have CC := xcan h addr 1 ha (by omega) (by omega)
  have HH := Lib.hid h
  rcases SpM.acc_07 m addr 1 with h0 | h0
  · obtain ⟨a1, a2, a3, _⟩ := SpM.acc_ok (by omega) h0
    rw [decide_eq_true h0] at CC
    rw [show m.writeM addr v = m.putW (addr / 8) v from if_pos h0, h0]
    have HC := Lib.hid CC
    have t1 : addr.tdiv 8 = addr / 8 := Int.tdiv_eq_ediv_of_nonneg a1
    have q0 : 0 ≤ addr / 8 := by omega
    have q1 : addr / 8 ≤ 9223372036854775807 := by have := h.n2; omega
    have CP := Lib.hid (xput h (addr / 8) v (by omega) (by omega))
    clear h CC h0 a3
    go_enter Tryd.func55, Tryd.ntmps55
    go_wp2_with (first | (go_at_call 50; with_reducible refine Still.use CM.out ?_) | (go_at_call 73; with_reducible refine Still.use HC.out ?_))
    refine CP.out.mono ?_
    rintro _ w1 ⟨rfl, ho, hr⟩
    go_wp2_with fail
    go_ret
    exact ⟨rfl, ho, hr⟩
  · have hne : ¬ m.acc addr 1 = 0 := by omega
    rw [decide_eq_false hne] at CC
    rw [show m.writeM addr v = m from if_neg hne, h0]
    have HC := Lib.hid CC
    clear h CC h0 hne
    go_enter Tryd.func55, Tryd.ntmps55
    go_wp2_with (first | (go_at_call 50; with_reducible refine Still.use CM.out ?_) | (go_at_call 73; with_reducible refine Still.use HC.out ?_))
    go_ret
    exact ⟨rfl, Only.refl _ _, HH.out⟩

/-- Words beyond the bounds, or beyond what can be accessed. -/
theorem SpM.cnt_cases (m : SpM) (addr words : Int) : (m.cnt addr words = 1 ∧ (words < 0 ∨ 32768 < words)) ∨ (m.cnt addr words = 7 ∧ 0 ≤ words ∧ words ≤ 32768 ∧ m.acc addr words = 7) ∨ (m.cnt addr words = 0 ∧ 0 ≤ words ∧ words ≤ 32768 ∧ m.acc addr words = 0) := by
  unfold SpM.cnt
  by_cases h : words < 0 ∨ 32768 < words
  · left; rw [if_pos h]; exact ⟨rfl, h⟩
  · right
    rw [if_neg h]
    rcases SpM.acc_07 m addr words with h0 | h0
    · right; exact ⟨h0, by omega, by omega, h0⟩
    · left; exact ⟨h0, by omega, by omega, h0⟩

set_option maxHeartbeats 4000000 in
theorem xWords (h : RefAt w p q1 q2 c1 c2 m) (addr words : Int) (ha : I64 addr) :
    Calls Tryd.prog 56 #[.pointer (some ⟨p, 0, none⟩), .int .i64 addr, .int .i64 words] w fun e w' => Only [] w w' ∧ (m.cnt addr words = 0 → ∃ x, e = .returned (.tuple #[x, .int .i64 0]) ∧ w'.ownsRow w.heap.size 3 1 x words.toNat (wl (fun k => m.h (addr / 8 + k)) words.toNat)) ∧
      (m.cnt addr words ≠ 0 → e = .returned (.tuple #[.slice none 0 0, .int .i64 (m.cnt addr words)])) := by
  have CM := Lib.hid (xmade h)
  rcases SpM.cnt_cases m addr words with ⟨h0, h1⟩ | ⟨h0, h1, h2, h3⟩ | ⟨h0, h1, h2, h3⟩
  · rw [h0]
    clear h h0
    by_cases hw : words < 0
    · have d1 := decide_eq_true hw
      clear h1 hw
      go_enter Tryd.func56, Tryd.ntmps56
      go_wp2_with (first | (go_at_call 50; with_reducible refine Still.use CM.out ?_))
      go_ret2
      exact ⟨Only.refl _ _, fun h => absurd h (by decide), fun _ => rfl⟩
    · have d1 := decide_eq_false hw
      have d2 : decide (32768 < words) = true := decide_eq_true (by omega)
      clear h1 hw
      go_enter Tryd.func56, Tryd.ntmps56
      go_wp2_with (first | (go_at_call 50; with_reducible refine Still.use CM.out ?_))
      go_ret2
      exact ⟨Only.refl _ _, fun h => absurd h (by decide), fun _ => rfl⟩
  · have CC := xcan h addr words ha h1 h2
    rw [decide_eq_false (by omega)] at CC
    have HC := Lib.hid CC
    have d1 : decide (words < 0) = false := decide_eq_false (by omega)
    have d2 : decide (32768 < words) = false := decide_eq_false (by omega)
    rw [h0]
    clear h h0 h3 CC
    go_enter Tryd.func56, Tryd.ntmps56
    go_wp2_with (first | (go_at_call 50; with_reducible refine Still.use CM.out ?_) | (go_at_call 73; with_reducible refine Still.use HC.out ?_))
    go_ret2
    exact ⟨Only.refl _ _, fun h => absurd h (by decide), fun _ => rfl⟩
  · have CC := xcan h addr words ha h1 h2
    rw [decide_eq_true h3] at CC
    have HC := Lib.hid CC
    have d1 : decide (words < 0) = false := decide_eq_false (by omega)
    have d2 : decide (32768 < words) = false := decide_eq_false (by omega)
    have HOK := Lib.hid (fun (hw : 1 ≤ words) => SpM.acc_ok hw h3)
    rw [h0]
    obtain ⟨nw, rfl⟩ : ∃ nw : Nat, words = nw := ⟨words.toNat, by omega⟩
    rw [Int.toNat_natCast]
    obtain ⟨i0, hi, hz0, hz1, hz2⟩ := info_parts info_int
    have HB := Lib.hid h.blk
    have HD := Lib.hid h.hds
    have hk2 := h.k2
    have n2 := h.n2
    clear h h0 h3 CC
    go_enter Tryd.func56, Tryd.ntmps56
    go_wp2_with (first | (go_at_call 50; with_reducible refine Still.use CM.out ?_) | (go_at_call 73; with_reducible refine Still.use HC.out ?_))
    go_loopw [8, 9] (fun u x wr => ∃ k : Nat, k ≤ nw ∧ x = .int .i64 k ∧ Only [] w wr ∧ wr.ownsRow w.heap.size 3 1 u k (wl (fun k => m.h (addr / 8 + k)) k)) (fun _ x _ => nw - (intOf x).toNat)
    case atStart => exact ⟨0, Nat.zero_le _, rfl, Only.refl _ _, World.ownsRow_nil _ _ _ _⟩
    case round =>
      clear d1 d2
      obtain ⟨k, hk, rfl, ho, hown⟩ := hrel
      by_cases hlt : k < nw
      · have d1 : decide ((k : Int) < nw) = true := decide_eq_true (by omega)
        obtain ⟨a1, a2, a3, _⟩ := HOK.out (by omega)
        obtain ⟨na, hna⟩ : ∃ na : Nat, addr / 8 = na := ⟨(addr / 8).toNat, by omega⟩
        have t1 : addr.tdiv 8 = na := by rw [Int.tdiv_eq_ediv_of_nonneg a1]; exact hna
        have hnn : na + k < 32 * m.n := by omega
        have z1 := (HB.out.only ho (by simp)).cell_ 1 rfl
        have y0 := (HD.out.only ho (by simp)).cell (k := na + k) hnn
        have HW := Lib.hid (show wl (fun k => m.h (addr / 8 + k)) (k + 1) = wl (fun k => m.h (addr / 8 + k)) k ++ [.int .i64 (m.h (addr / 8 + k))] from wl_succ _ k)
        rw [show ((na + k : Nat) : Int) = addr / 8 + k by omega] at y0
        have hsz := ho.size
        generalize m.h (addr / 8 + (k : Int)) = x at y0 HW
        clear hna
        generalize m.n = n at *
        go_wp2_with (first | (at_builtin; refine wpList_append_own _ rfl _ _ 40 rfl w.heap.size 3 i0 (.int .i64 0) 1 8 Tryd.underlying40 hi hz0 hz1 hz2 rfl (by decide) _ _ _ rfl (hown.alloc _) ⟨wr.heap.size, 0, none⟩ 1 1 [.int .i64 x] rfl rfl (news_new wr _ _) (by simp [Value.oneCell']) (by unfold maxLen; omega) (by omega) (by simp; omega) ?_; intro v1 w3 hown3 hg3 _))
        go_roundw
        case rel => exact ⟨k + 1, by omega, by go_num, (ho.alloc _).grown hg3 (fun b hb => .inr (own_base hown b hb)), by rw [HW.out]; exact hown3⟩
        case measure => simp [intOf]; omega
      · have e : k = nw := by omega
        subst e
        have d1 : decide ((k : Int) < k) = false := decide_eq_false (by omega)
        go_wp2_with fail
        go_ret2
        exact ⟨ho, fun _ => ⟨_, rfl, hown⟩, fun h => absurd rfl h⟩

set_option maxHeartbeats 4000000 in
theorem xFill (h : RefAt w p q1 q2 c1 c2 m) (addr words v : Int) (ha : I64 addr) :
    Calls Tryd.prog 58 #[.pointer (some ⟨p, 0, none⟩), .int .i64 addr, .int .i64 words, .int .i64 v] w fun e w' => e = .returned (.int .i64 (m.cnt addr words)) ∧ Only [p, q1, q2] w w' ∧ RefAt w' p q1 q2 c1 c2 (m.fillM addr words v) := by
  have CM := Lib.hid (xmade h)
  have HH := Lib.hid h
  rcases SpM.cnt_cases m addr words with ⟨h0, h1⟩ | ⟨h0, h1, h2, h3⟩ | ⟨h0, h1, h2, h3⟩
  · rw [show m.fillM addr words v = m from if_neg (by omega), h0]
    clear h h0
    by_cases hw : words < 0
    · have d1 := decide_eq_true hw
      clear h1 hw
      go_enter Tryd.func58, Tryd.ntmps58
      go_wp2_with (first | (go_at_call 50; with_reducible refine Still.use CM.out ?_))
      go_ret
      exact ⟨rfl, Only.refl _ _, HH.out⟩
    · have d1 := decide_eq_false hw
      have d2 : decide (32768 < words) = true := decide_eq_true (by omega)
      clear h1 hw
      go_enter Tryd.func58, Tryd.ntmps58
      go_wp2_with (first | (go_at_call 50; with_reducible refine Still.use CM.out ?_))
      go_ret
      exact ⟨rfl, Only.refl _ _, HH.out⟩
  · have CC := xcan h addr words ha h1 h2
    rw [decide_eq_false (by omega)] at CC
    have HC := Lib.hid CC
    have d1 : decide (words < 0) = false := decide_eq_false (by omega)
    have d2 : decide (32768 < words) = false := decide_eq_false (by omega)
    rw [show m.fillM addr words v = m from if_neg (by omega), h0]
    clear h h0 h3 CC
    go_enter Tryd.func58, Tryd.ntmps58
    go_wp2_with (first | (go_at_call 50; with_reducible refine Still.use CM.out ?_) | (go_at_call 73; with_reducible refine Still.use HC.out ?_))
    go_ret
    exact ⟨rfl, Only.refl _ _, HH.out⟩
  · have CC := xcan h addr words ha h1 h2
    rw [decide_eq_true h3] at CC
    have HC := Lib.hid CC
    have d1 : decide (words < 0) = false := decide_eq_false (by omega)
    have d2 : decide (32768 < words) = false := decide_eq_false (by omega)
    have HOK := Lib.hid (fun (hw : 1 ≤ words) => SpM.acc_ok hw h3)
    rw [show m.fillM addr words v = m.puts (addr / 8) (fun _ => v) words.toNat from if_pos h0, h0]
    obtain ⟨nw, rfl⟩ : ∃ nw : Nat, words = nw := ⟨words.toNat, by omega⟩
    rw [Int.toNat_natCast]
    have n2 := h.n2
    clear h h0 h3 CC
    go_enter Tryd.func58, Tryd.ntmps58
    go_wp2_with (first | (go_at_call 50; with_reducible refine Still.use CM.out ?_) | (go_at_call 73; with_reducible refine Still.use HC.out ?_))
    go_loopw [9] (fun x wr => ∃ k : Nat, k ≤ nw ∧ x = .int .i64 k ∧ Only [p, q1, q2] w wr ∧ RefAt wr p q1 q2 c1 c2 (m.puts (addr / 8) (fun _ => v) k)) (fun x _ => nw - (intOf x).toNat)
    case atStart => exact ⟨0, Nat.zero_le _, rfl, Only.refl _ _, HH.out⟩
    case round =>
      clear d1 d2
      obtain ⟨k, hk, rfl, ho, hr⟩ := hrel
      by_cases hlt : k < nw
      · have d1 : decide ((k : Int) < nw) = true := decide_eq_true (by omega)
        obtain ⟨a1, a2, a3, _⟩ := HOK.out (by omega)
        have t1 : addr.tdiv 8 = addr / 8 := Int.tdiv_eq_ediv_of_nonneg a1
        have q0 : 0 ≤ addr / 8 := by omega
        have q1' : addr / 8 ≤ 32768 := by omega
        have CP := Lib.hid (xput hr (addr / 8 + k) v (by omega) (by rw [SpM.puts_n]; omega))
        rw [show (m.puts (addr / 8) (fun _ => v) k).putW (addr / 8 + k) v = m.puts (addr / 8) (fun _ => v) (k + 1) from rfl] at CP
        clear hr a3
        go_wp2_with fail
        refine CP.out.mono ?_
        rintro _ w1 ⟨rfl, ho2, hr2⟩
        have HR2 := Lib.hid hr2
        clear hr2
        go_wp2_with fail
        go_roundw
        case rel => exact ⟨k + 1, by omega, by go_num, ho.trans ho2, HR2.out⟩
        case measure => simp [intOf]; omega
      · have e : k = nw := by omega
        subst e
        have d1 : decide ((k : Int) < k) = false := decide_eq_false (by omega)
        have HR2 := Lib.hid hr
        clear hr
        go_wp2_with fail
        go_ret
        exact ⟨rfl, ho, HR2.out⟩

set_option maxHeartbeats 4000000 in
theorem xCopy (h : RefAt w p q1 q2 c1 c2 m) (to src words : Int) (ha : I64 to) (hs : I64 src) :
    Calls Tryd.prog 59 #[.pointer (some ⟨p, 0, none⟩), .int .i64 to, .int .i64 src, .int .i64 words] w fun e w' => e = .returned (.int .i64 (m.copyE to src words)) ∧ Only [p, q1, q2] w w' ∧ RefAt w' p q1 q2 c1 c2 (m.copyM to src words) := by
  have CM := Lib.hid (xmade h)
  have HH := Lib.hid h
  rcases SpM.cnt_cases m to words with ⟨h0, h1⟩ | ⟨h0, h1, h2, h3⟩ | ⟨h0, h1, h2, h3⟩
  · have hE : m.copyE to src words = 1 := by unfold SpM.copyE; rw [if_neg (by omega), h0]
    rw [show m.copyM to src words = m from if_neg (by omega), hE]
    clear h h0 hE
    by_cases hw : words < 0
    · have d1 := decide_eq_true hw
      clear h1 hw
      go_enter Tryd.func59, Tryd.ntmps59
      go_wp2_with (first | (go_at_call 50; with_reducible refine Still.use CM.out ?_))
      go_ret
      exact ⟨rfl, Only.refl _ _, HH.out⟩
    · have d1 := decide_eq_false hw
      have d2 : decide (32768 < words) = true := decide_eq_true (by omega)
      clear h1 hw
      go_enter Tryd.func59, Tryd.ntmps59
      go_wp2_with (first | (go_at_call 50; with_reducible refine Still.use CM.out ?_))
      go_ret
      exact ⟨rfl, Only.refl _ _, HH.out⟩
  · have CC := xcan h to words ha h1 h2
    rw [decide_eq_false (by omega)] at CC
    have HC := Lib.hid CC
    have d1 : decide (words < 0) = false := decide_eq_false (by omega)
    have d2 : decide (32768 < words) = false := decide_eq_false (by omega)
    have hE : m.copyE to src words = 7 := by unfold SpM.copyE; rw [if_neg (by omega), h0]
    rw [show m.copyM to src words = m from if_neg (by omega), hE]
    clear h h0 h3 CC hE
    go_enter Tryd.func59, Tryd.ntmps59
    go_wp2_with (first | (go_at_call 50; with_reducible refine Still.use CM.out ?_) | (go_at_call 73; with_reducible refine Still.use HC.out ?_))
    go_ret
    exact ⟨rfl, Only.refl _ _, HH.out⟩
  · have CC := xcan h to words ha h1 h2
    rw [decide_eq_true h3] at CC
    have HC := Lib.hid CC
    have CC2 := xcan h src words hs h1 h2
    have d1 : decide (words < 0) = false := decide_eq_false (by omega)
    have d2 : decide (32768 < words) = false := decide_eq_false (by omega)
    have hE : m.copyE to src words = m.acc src words := by unfold SpM.copyE; rw [if_pos h0]; unfold SpM.cnt; rw [if_neg (by omega)]
    rcases SpM.acc_07 m src words with h4 | h4
    · rw [decide_eq_true h4] at CC2
      have HC2 := Lib.hid CC2
      have HOK := Lib.hid (fun (hw : 1 ≤ words) => SpM.acc_ok hw h3)
      have CW := Lib.hid (xWords h src words hs)
      have HC0 := Lib.hid (show m.cnt src words = 0 by unfold SpM.cnt; rw [if_neg (by omega)]; exact h4)
      rw [show m.copyM to src words = m.puts (to / 8) (fun k => m.h (src / 8 + k)) words.toNat from if_pos (by omega), hE, h4]
      obtain ⟨nw, rfl⟩ : ∃ nw : Nat, words = nw := ⟨words.toNat, by omega⟩
      rw [Int.toNat_natCast] at CW
      rw [Int.toNat_natCast]
      generalize (fun k : Nat => m.h (src / 8 + (k : Int))) = F at *
      have n2 := h.n2
      clear h h0 h3 h4 CC CC2 hE
      go_enter Tryd.func59, Tryd.ntmps59
      go_wp2_with (first | (go_at_call 50; with_reducible refine Still.use CM.out ?_) | (go_at_call 73; with_reducible refine Still.use HC.out ?_) | (go_at_call 73; with_reducible refine Still.use HC2.out ?_))
      refine CW.out.mono ?_
      rintro _ w1 ⟨ho1, hx, _⟩
      obtain ⟨x, rfl, hown⟩ := hx HC0.out
      obtain ⟨A, c, rfl, _⟩ := own_slice hown
      have HOW := Lib.hid hown
      have HR1 := Lib.hid (HH.out.still ho1)
      have hlt0 := HH.out
      have hb1 := hlt0.ltp
      have hb2 := hlt0.lt1
      have hb3 := hlt0.lt2
      clear hlt0 hx hown
      go_wp2_with fail
      go_loopw [11] (fun x wr => ∃ k : Nat, k ≤ nw ∧ x = .int .i64 k ∧ Only [p, q1, q2] w1 wr ∧ RefAt wr p q1 q2 c1 c2 (m.puts (to / 8) F k)) (fun x _ => nw - (intOf x).toNat)
      case atStart => exact ⟨0, Nat.zero_le _, rfl, Only.refl _ _, HR1.out⟩
      case round =>
        clear d1 d2
        obtain ⟨k, hk, rfl, ho, hr⟩ := hrel
        by_cases hlt : k < nw
        · have d1 : decide ((k : Int) < nw) = true := decide_eq_true (by omega)
          obtain ⟨a1, a2, a3, _⟩ := HOK.out (by omega)
          have t1 : to.tdiv 8 = to / 8 := Int.tdiv_eq_ediv_of_nonneg a1
          have q0 : 0 ≤ to / 8 := by omega
          have q1' : to / 8 ≤ 32768 := by omega
          have hownr := own_only HOW.out ho (fun b hb => by have := own_base HOW.out b hb; simp; omega)
          obtain ⟨A2, c3, hx, hrd⟩ := own_readsV hownr
          injection hx with hx1 _ hx3
          subst hx1 hx3
          obtain ⟨ad, rfl, hcell⟩ := hrd (by omega)
          have y0 := hcell k hlt
          have CP := Lib.hid (xput hr (to / 8 + k) (F k) (by omega) (by rw [SpM.puts_n]; omega))
          rw [show (m.puts (to / 8) F k).putW (to / 8 + k) (F k) = m.puts (to / 8) F (k + 1) from rfl] at CP
          generalize F k = x at y0 CP
          clear hr a3 hcell hownr
          go_wp2_with fail
          refine CP.out.mono ?_
          rintro _ w2 ⟨rfl, ho2, hr2⟩
          have HR2 := Lib.hid hr2
          clear hr2
          go_wp2_with fail
          go_roundw
          case rel => exact ⟨k + 1, by omega, by go_num, ho.trans ho2, HR2.out⟩
          case measure => simp [intOf]; omega
        · have e : k = nw := by omega
          subst e
          have d1 : decide ((k : Int) < k) = false := decide_eq_false (by omega)
          have HR2 := Lib.hid hr
          clear hr
          go_wp2_with fail
          go_ret
          exact ⟨rfl, ho1.of_nil.trans ho, HR2.out⟩
    · rw [decide_eq_false (by omega)] at CC2
      have HC2 := Lib.hid CC2
      rw [show m.copyM to src words = m from if_neg (by omega), hE, h4]
      clear h h0 h3 h4 CC CC2 hE
      go_enter Tryd.func59, Tryd.ntmps59
      go_wp2_with (first | (go_at_call 50; with_reducible refine Still.use CM.out ?_) | (go_at_call 73; with_reducible refine Still.use HC.out ?_) | (go_at_call 73; with_reducible refine Still.use HC2.out ?_))
      go_ret
      exact ⟨rfl, Only.refl _ _, HH.out⟩
end
end Go.Proofs.YtmalmkccgjeboaaDoor
