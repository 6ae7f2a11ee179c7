/- Contracts of counted, get and Read. -/
import Derived.Test.YtmalmkccgjeboaaDoorVG
set_option linter.unusedVariables false
set_option linter.unusedSimpArgs false
namespace Go.Proofs.YtmalmkccgjeboaaDoor
open Go.RowKit

set_option maxHeartbeats 1600000 in
theorem counted_any {w : World} (hE : Env w) {p : Nat} {l : List Nat} {m : SpM} (h : SpaceAt w p l m) (addr words : Int) (ha : I64 addr) :
    Grew Tryd.prog 48 #[.pointer (some ⟨p, 0, none⟩), .int .i64 addr, .int .i64 words] w (.int .i64 (m.cnt addr words)) := by
  have CM := Lib.hid (made_any h)
  by_cases h1 : words < 0 ∨ 32768 < words
  · have E := Lib.hid (show m.cnt addr words = 1 by unfold SpM.cnt; rw [if_pos h1])
    clear h hE
    by_cases h2 : words < 0
    · have d1 := decide_eq_true h2
      go_enter Tryd.func48, Tryd.ntmps48
      go_wp2_with (first | (go_at_call 40; refine Still.use CM.out ?_))
      go_ret
      exact ⟨by rw [E.out]; rfl, Only.refl _ _⟩
    · have d1 := decide_eq_false h2
      have d2 : decide (32768 < words) = true := decide_eq_true (by omega)
      go_enter Tryd.func48, Tryd.ntmps48
      go_wp2_with (first | (go_at_call 40; refine Still.use CM.out ?_))
      go_ret
      exact ⟨by rw [E.out]; rfl, Only.refl _ _⟩
  · have E := Lib.hid (show m.cnt addr words = m.acc addr words by unfold SpM.cnt; rw [if_neg h1])
    have CA := Lib.hid (access_any hE h addr words ha (by omega) (by omega))
    have d1 : decide (words < 0) = false := decide_eq_false (by omega)
    have d2 : decide (32768 < words) = false := decide_eq_false (by omega)
    clear h hE h1
    go_enter Tryd.func48, Tryd.ntmps48
    go_wp2_with (first | (go_at_call 40; refine Still.use CM.out ?_) | (go_at_call 37; refine Grew.use CA.out (fun w1 ho1 => ?_)))
    go_ret
    exact ⟨by rw [E.out]; rfl, ho1⟩

set_option maxHeartbeats 1600000 in
theorem get_any {w : World} {p : Nat} {l : List Nat} {m : SpM} (h : SpaceAt w p l m) (word : Int) (h0 : 0 ≤ word) (h1 : word < 32 * m.n) :
    Still Tryd.prog 39 #[.pointer (some ⟨p, 0, none⟩), .int .i64 word] w (.int .i64 (m.h word)) := by
  obtain ⟨hg, h3, h4, gp, cap, gm, G, hp⟩ := h
  have z1 := hp.blk.cell_ 1 rfl
  have hn2 := hg.n2
  have t1 : word.tdiv 32 = word / 32 := Int.tdiv_eq_ediv_of_nonneg h0
  have q1 : 0 ≤ word / 32 := by omega
  have q2 : word / 32 < m.n := by omega
  have q3 : word ≤ 32768 := by omega
  rcases hp.dict.look (k := word / 32) (by unfold I64; omega) true with ⟨g, cp, hG, _, hrun⟩ | ⟨hG, hrun⟩
  · obtain ⟨c1, _, _, _, _, c6⟩ := hp.words _ _ hG
    have hc := c6.cell (k := (word % 32).toNat) (by omega)
    rw [show 32 * (word / 32) + ((word % 32).toNat : Int) = word by omega] at hc
    rw [if_pos rfl] at hrun
    clear hp hg hG c1 c6
    go_enter Tryd.func39, Tryd.ntmps39
    go_wp2_with fail
    go_ret
    exact ⟨rfl, rfl⟩
  · have e : m.h word = 0 := hg.h0 word (fun e => by
      obtain ⟨g, hg'⟩ := hp.all _ q1 q2 e
      rw [hG] at hg'
      cases hg')
    rw [if_pos rfl] at hrun
    rw [e]
    clear hp hg hG e
    go_enter Tryd.func39, Tryd.ntmps39
    go_wp2_with fail
    go_ret
    exact ⟨rfl, rfl⟩

/-- A word that can be accessed lies in the space, on a mapped page. -/
theorem SpM.acc_ok {m : SpM} {addr words : Int} (hw : 1 ≤ words) (h : m.acc addr words = 0) : 0 ≤ addr ∧ addr % 8 = 0 ∧ addr / 8 + words ≤ 32 * m.n ∧ ∀ j : Int, addr / 8 ≤ j → j < addr / 8 + words → m.st (j / 32) ≠ 0 := by
  unfold SpM.acc at h
  rw [if_neg (by omega)] at h
  split at h
  · cases h
  · rename_i h1
    split at h
    · cases h
    · rename_i h2
      split at h
      · cases h
      · rename_i h3
        unfold lastP at h2 h3
        refine ⟨by omega, by omega, by omega, fun j hj1 hj2 h0 => ?_⟩
        rw [anyTo_true] at h3
        refine h3 ⟨(j / 32 - addr / 256).toNat, by omega, ?_⟩
        rw [show (((addr / 256).toNat : Int) + ((j / 32 - addr / 256).toNat : Int)) = j / 32 by omega, h0]
        rfl

set_option maxHeartbeats 1600000 in
theorem Read_any {w : World} (hE : Env w) {p : Nat} {l : List Nat} {m : SpM} (h : SpaceAt w p l m) (addr : Int) (ha : I64 addr) :
    Grew Tryd.prog 17 #[.pointer (some ⟨p, 0, none⟩), .int .i64 addr] w (.tuple #[.int .i64 (if m.acc addr 1 = 0 then m.h (addr / 8) else 0), .int .i64 (m.acc addr 1)]) := by
  have CA := Lib.hid (access_any hE h addr 1 ha (by omega) (by omega))
  have HH := Lib.hid h
  by_cases h0 : m.acc addr 1 = 0
  · obtain ⟨a1, a2, a3, _⟩ := SpM.acc_ok (by omega) h0
    have t1 : addr.tdiv 8 = addr / 8 := Int.tdiv_eq_ediv_of_nonneg a1
    have E := Lib.hid h0
    rw [h0] at CA
    have hn2 := h.good.n2
    have q1 : 0 ≤ addr / 8 := by omega
    have q2 : addr / 8 ≤ 32768 := by omega
    have HI := Lib.hid a3
    clear h hE h0 a3
    go_enter Tryd.func17, Tryd.ntmps17
    go_wp2_with (first | (go_at_call 37; refine Grew.use CA.out (fun w1 ho1 => ?_)))
    refine Still.use (get_any (HH.out.still ho1) _ q1 (by have := HI.out; omega)) ?_
    go_wp2_with fail
    go_ret2
    exact ⟨rfl, ho1⟩
  · have E := Lib.hid h0
    have d1 : (m.acc addr 1 == 0) = false := beq_eq_false_iff_ne.2 h0
    have d2 : (m.acc addr 1 != 0) = true := bne_iff_ne.2 h0
    clear h hE h0
    go_enter Tryd.func17, Tryd.ntmps17
    go_wp2_with (first | (go_at_call 37; refine Grew.use CA.out (fun w1 ho1 => ?_)))
    go_ret2
    exact ⟨rfl, ho1⟩
end Go.Proofs.YtmalmkccgjeboaaDoor
