/- Contracts of Write, Words, Fill and Copy. -/
import Derived.Test.YtmalmkccgjeboaaDoorVI
set_option linter.unusedVariables false
set_option linter.unusedSimpArgs false
namespace Go.Proofs.YtmalmkccgjeboaaDoor
open Go.RowKit
open Go.ChangeMaps Go.Maps

namespace SpM
def writeM (m : SpM) (addr v : Int) : SpM := if m.acc addr 1 = 0 then m.putW (addr / 8) v else m
/-- The first k of some words are written. -/
def puts (m : SpM) (j : Int) (f : Nat → Int) : Nat → SpM
  | 0 => m
  | k + 1 => (puts m j f k).putW (j + k) (f k)
theorem puts_n (m : SpM) (j : Int) (f : Nat → Int) (k : Nat) : (m.puts j f k).n = m.n := by
  induction k with
  | zero => rfl
  | succ k ih => exact ih
def fillM (m : SpM) (addr words v : Int) : SpM := if m.cnt addr words = 0 then m.puts (addr / 8) (fun _ => v) words.toNat else m
def copyE (m : SpM) (to src words : Int) : Int := if m.cnt to words = 0 then m.cnt src words else m.cnt to words
def copyM (m : SpM) (to src words : Int) : SpM := if m.copyE to src words = 0 then m.puts (to / 8) (fun k => m.h (src / 8 + k)) words.toNat else m
theorem cnt_ok {m : SpM} {addr words : Int} (h : m.cnt addr words = 0) : 0 ≤ words ∧ words ≤ 32768 ∧ (1 ≤ words → 0 ≤ addr ∧ addr % 8 = 0 ∧ addr / 8 + words ≤ 32 * m.n ∧ ∀ j : Int, addr / 8 ≤ j → j < addr / 8 + words → m.st (j / 32) ≠ 0) := by
  unfold cnt at h
  split at h
  · cases h
  · exact ⟨by omega, by omega, fun hw => acc_ok hw h⟩
end SpM

set_option maxHeartbeats 1600000 in
theorem Write_any {w : World} (hE : Env w) {p : Nat} {l : List Nat} {m : SpM} (h : SpaceAt w p l m) (addr v : Int) (ha : I64 addr) (hv : I64 v) :
    Calls Tryd.prog 16 #[.pointer (some ⟨p, 0, none⟩), .int .i64 addr, .int .i64 v] w fun e w' => e = .returned (.int .i64 (m.acc addr 1)) ∧ Turn w p l w' (m.writeM addr v) := by
  have CA := Lib.hid (access_any hE h addr 1 ha (by omega) (by omega))
  have HH := Lib.hid h
  have HE := Lib.hid hE
  by_cases h0 : m.acc addr 1 = 0
  · obtain ⟨a1, a2, a3, _⟩ := SpM.acc_ok (by omega) h0
    have t1 : addr.tdiv 8 = addr / 8 := Int.tdiv_eq_ediv_of_nonneg a1
    have E := Lib.hid (show m.writeM addr v = m.putW (addr / 8) v from if_pos h0)
    have E0 := Lib.hid h0
    rw [h0] at CA
    have hn2 := h.good.n2
    have q1 : 0 ≤ addr / 8 := by omega
    have q2 : addr / 8 ≤ 32768 := by omega
    have HI := Lib.hid a3
    clear h hE h0 a3
    go_enter Tryd.func16, Tryd.ntmps16
    go_wp2_with (first | (go_at_call 37; refine Grew.use CA.out (fun w1 ho1 => ?_)))
    refine (put_any (HE.out.only ho1 (by simp)) (HH.out.still ho1) _ v q1 (by have := HI.out; omega) hv).mono ?_
    rintro e w2 ⟨rfl, ht⟩
    go_wp2_with fail
    go_ret
    exact ⟨by rw [E0.out]; rfl, by rw [E.out]; exact Turn.first ho1 ht⟩
  · have E := Lib.hid (show m.writeM addr v = m from if_neg h0)
    have d1 : (m.acc addr 1 == 0) = false := beq_eq_false_iff_ne.2 h0
    have d2 : (m.acc addr 1 != 0) = true := bne_iff_ne.2 h0
    clear h hE h0
    go_enter Tryd.func16, Tryd.ntmps16
    go_wp2_with (first | (go_at_call 37; refine Grew.use CA.out (fun w1 ho1 => ?_)))
    go_ret
    exact ⟨rfl, by rw [E.out]; exact Turn.same HH.out ho1⟩

/-- The slice holds the first n numbers of f, in a block of its own from base on. -/
def IntsAt (w : World) (base : Nat) (A : Option Addr) (n : Nat) (f : Nat → Int) : Prop := ∃ g, A = some ⟨g, 0, none⟩ ∧ base ≤ g ∧ Row w g n (fun k => .int .i64 (f k))

set_option maxRecDepth 100000 in
set_option maxHeartbeats 4000000 in
theorem Words_any {w : World} (hE : Env w) {p : Nat} {l : List Nat} {m : SpM} (h : SpaceAt w p l m) (addr words : Int) (ha : I64 addr) :
    Calls Tryd.prog 27 #[.pointer (some ⟨p, 0, none⟩), .int .i64 addr, .int .i64 words] w fun e w' => Only [] w w' ∧
      (m.cnt addr words = 0 → ∃ A, e = .returned (.tuple #[.slice A words.toNat words.toNat, .int .i64 0]) ∧ IntsAt w' w.heap.size A words.toNat (fun k => m.h (addr / 8 + k))) ∧ (m.cnt addr words ≠ 0 → e = .returned (.tuple #[.slice none 0 0, .int .i64 (m.cnt addr words)])) := by
  have CA := Lib.hid (counted_any hE h addr words ha)
  have HH := Lib.hid h
  by_cases h0 : m.cnt addr words = 0
  · have H0 := Lib.hid h0
    obtain ⟨c1, c2, c3⟩ := SpM.cnt_ok h0
    obtain ⟨n, rfl⟩ : ∃ n : Nat, words = n := ⟨words.toNat, by omega⟩
    have hmk : ∀ W : World, (Instr.makeSlice 40 (.int .i64 (n : Int)) (.int .i64 (n : Int))).run Tryd.prog W = .ok (.slice (some ⟨W.heap.size, 0, none⟩) n n) (W.alloc (.cells (madeCells #[.int .i64 0] n) 3)) := fun W => Go.run_make_row' 40 3 (.int .i64 0) 8 Tryd.underlying40 info_int rfl .i64 .i64 n (by omega) (by omega) W
    rw [h0] at CA
    have hn2 := h.good.n2
    clear h hE h0
    go_enter Tryd.func27, Tryd.ntmps27
    go_wp2_with (first | (go_at_call 48; refine Grew.use CA.out (fun w1 ho1 => ?_)))
    have hb := Blk.new w1 3 (madeCells #[.int .i64 0] n)
    have hr0 : Row (w1.alloc (.cells (madeCells #[.int .i64 0] n) 3)) w1.heap.size n (fun _ => .int .i64 0) := ⟨_, _, hb, by rw [size_madeCells]; exact Nat.le_refl _, fun k hk => made_at hk⟩
    have hoa := (Only.refl [] w1).alloc (.cells (madeCells #[.int .i64 0] n) 3)
    generalize w1.alloc (.cells (madeCells #[.int .i64 0] n) 3) = wa at *
    have hsz := ho1.size
    have hsa := hr0.lt
    clear hmk hb
    go_loopw [22] (fun t wr => ∃ k : Nat, k ≤ n ∧ t = .int .i64 k ∧ Only [w1.heap.size] wa wr ∧ Row wr w1.heap.size n (fun i => if i < k then .int .i64 (m.h (addr / 8 + i)) else .int .i64 0)) (fun t _ => n - (intOf t).toNat)
    case atStart => exact ⟨0, Nat.zero_le _, rfl, Only.refl _ _, hr0.congr (fun k _ => by simp)⟩
    case round =>
      obtain ⟨k, hk, rfl, ho, hrow⟩ := hrel
      by_cases hlt : k < n
      · obtain ⟨a1, a2, a3, _⟩ := c3 (by omega)
        have d1 : decide ((k : Int) < n) = true := decide_eq_true (by omega)
        have t1 : addr.tdiv 8 = addr / 8 := Int.tdiv_eq_ediv_of_nonneg a1
        have q1 : 0 ≤ addr / 8 := by omega
        have q2 : addr / 8 ≤ 32768 := by omega
        have hsp : SpaceAt wr p l m := ((HH.out.still ho1).still hoa).only ho (by
          intro b hb
          have := HH.out.lt b hb
          simp
          omega)
        have CG := Lib.hid (get_any hsp (addr / 8 + k) (by omega) (by omega))
        have y0 := hrow.cell hlt
        have fy := hrow.frozen k
        rw [if_neg (by omega)] at y0
        have HN := Lib.hid ((hrow.set_ k (.int .i64 (m.h (addr / 8 + k)))).congr (f' := fun i => if i < k + 1 then .int .i64 (m.h (addr / 8 + i)) else .int .i64 0) (fun i hi => by
          by_cases e : i = k
          · rw [if_pos e, if_pos (by omega), e]
          · rw [if_neg e]
            by_cases e2 : i < k
            · rw [if_pos e2, if_pos (by omega)]
            · rw [if_neg e2, if_neg (by omega)]))
        clear hrow hsp a3 c3
        go_wp2_with (first | (go_at_call 39; refine Still.use CG.out ?_))
        go_roundw
        case rel => exact ⟨k + 1, by omega, by go_num, ho.setCell (.inl (by simp)) _, HN.out⟩
        case measure => simp [intOf]; omega
      · have e : k = n := by omega
        have d1 : decide ((k : Int) < n) = false := decide_eq_false (by omega)
        go_wp2_with fail
        go_ret2
        refine ⟨ho1.trans (hoa.then_ ho (fun b hb => .inr (by simp at hb; omega))), fun _ => ⟨_, rfl, w1.heap.size, rfl, hsz, hrow.congr (fun i hi => by rw [if_pos (by omega)])⟩, fun h => absurd H0.out h⟩
  · have H0 := Lib.hid h0
    have d1 : (m.cnt addr words == 0) = false := beq_eq_false_iff_ne.2 h0
    have d2 : (m.cnt addr words != 0) = true := bne_iff_ne.2 h0
    clear h hE h0
    go_enter Tryd.func27, Tryd.ntmps27
    go_wp2_with (first | (go_at_call 48; refine Grew.use CA.out (fun w1 ho1 => ?_)))
    go_ret2
    exact ⟨ho1, fun h => absurd h H0.out, fun _ => rfl⟩

set_option maxHeartbeats 1600000 in
theorem Fill_any {w : World} (hE : Env w) {p : Nat} {l : List Nat} {m : SpM} (h : SpaceAt w p l m) (addr words v : Int) (ha : I64 addr) (hv : I64 v) :
    Calls Tryd.prog 28 #[.pointer (some ⟨p, 0, none⟩), .int .i64 addr, .int .i64 words, .int .i64 v] w fun e w' => e = .returned (.int .i64 (m.cnt addr words)) ∧ Turn w p l w' (m.fillM addr words v) := by
  have CA := Lib.hid (counted_any hE h addr words ha)
  have HH := Lib.hid h
  have HE := Lib.hid hE
  by_cases h0 : m.cnt addr words = 0
  · have H0 := Lib.hid h0
    have EF := Lib.hid (show m.fillM addr words v = m.puts (addr / 8) (fun _ => v) words.toNat from if_pos h0)
    obtain ⟨c1, c2, c3⟩ := SpM.cnt_ok h0
    obtain ⟨n, rfl⟩ : ∃ n : Nat, words = n := ⟨words.toNat, by omega⟩
    rw [h0] at CA
    have hn2 := h.good.n2
    clear h hE h0
    go_enter Tryd.func28, Tryd.ntmps28
    go_wp2_with (first | (go_at_call 48; refine Grew.use CA.out (fun w1 ho1 => ?_)))
    go_loopw [19] (fun t wr => ∃ k : Nat, k ≤ n ∧ t = .int .i64 k ∧ Turn w p l wr (m.puts (addr / 8) (fun _ => v) k)) (fun t _ => n - (intOf t).toNat)
    case atStart => exact ⟨0, Nat.zero_le _, rfl, Turn.same HH.out ho1⟩
    case round =>
      obtain ⟨k, hk, rfl, hT⟩ := hrel
      by_cases hlt : k < n
      · obtain ⟨a1, a2, a3, _⟩ := c3 (by omega)
        have d1 : decide ((k : Int) < n) = true := decide_eq_true (by omega)
        have t1 : addr.tdiv 8 = addr / 8 := Int.tdiv_eq_ediv_of_nonneg a1
        have q1 : 0 ≤ addr / 8 := by omega
        have q2 : addr / 8 ≤ 32768 := by omega
        obtain ⟨ho, l', hs', hl'⟩ := hT
        have hpn := SpM.puts_n m (addr / 8) (fun _ => v) k
        have CP := Lib.hid (put_any (HE.out.only ho HH.out.l3) hs' (addr / 8 + k) v (by omega) (by rw [hpn]; omega) hv)
        have HHO := Lib.hid ho
        have HL := Lib.hid hl'
        clear ho hs' hl' a3 c3
        go_wp2_with fail
        refine CP.out.mono ?_
        rintro e w2 ⟨rfl, ht⟩
        go_wp2_with fail
        go_roundw
        case rel => exact ⟨k + 1, by omega, by go_num, Turn.step HHO.out HL.out ht⟩
        case measure => simp [intOf]; omega
      · have e : k = n := by omega
        subst e
        have d1 : decide ((k : Int) < k) = false := decide_eq_false (by omega)
        go_wp2_with fail
        go_ret
        exact ⟨by rw [H0.out]; rfl, by rw [EF.out]; exact hT⟩
  · have E := Lib.hid (show m.fillM addr words v = m from if_neg h0)
    have d1 : (m.cnt addr words == 0) = false := beq_eq_false_iff_ne.2 h0
    have d2 : (m.cnt addr words != 0) = true := bne_iff_ne.2 h0
    clear h hE h0
    go_enter Tryd.func28, Tryd.ntmps28
    go_wp2_with (first | (go_at_call 48; refine Grew.use CA.out (fun w1 ho1 => ?_)))
    go_ret
    exact ⟨rfl, by rw [E.out]; exact Turn.same HH.out ho1⟩

set_option maxHeartbeats 1600000 in
theorem Copy_any {w : World} (hE : Env w) {p : Nat} {l : List Nat} {m : SpM} (h : SpaceAt w p l m) (to src words : Int) (ha : I64 to) (hb : I64 src) :
    Calls Tryd.prog 29 #[.pointer (some ⟨p, 0, none⟩), .int .i64 to, .int .i64 src, .int .i64 words] w fun e w' => e = .returned (.int .i64 (m.copyE to src words)) ∧ Turn w p l w' (m.copyM to src words) := by
  have CA := Lib.hid (counted_any hE h to words ha)
  have HH := Lib.hid h
  have HE := Lib.hid hE
  have CW := Lib.hid (fun W (ho : Only [] w W) => Words_any (hE.only ho (by simp)) (h.still ho) src words hb)
  by_cases h0 : m.cnt to words = 0
  · rw [h0] at CA
    by_cases h1 : m.cnt src words = 0
    · have E0 := Lib.hid (show m.copyE to src words = 0 by unfold SpM.copyE; rw [if_pos h0, h1])
      have EF := Lib.hid (show m.copyM to src words = m.puts (to / 8) (fun k => m.h (src / 8 + k)) words.toNat from if_pos E0.out)
      have HV := Lib.hid h.good.h1
      obtain ⟨c1, c2, c3⟩ := SpM.cnt_ok h0
      have H1 := Lib.hid h1
      have hn2 := h.good.n2
      obtain ⟨n, rfl⟩ : ∃ n : Nat, words = n := ⟨words.toNat, by omega⟩
      clear h hE h0 h1
      go_enter Tryd.func29, Tryd.ntmps29
      go_wp2_with (first | (go_at_call 48; refine Grew.use CA.out (fun w1 ho1 => ?_)))
      refine (CW.out _ ho1).mono ?_
      rintro e w2 ⟨ho2, hw2, _⟩
      obtain ⟨A, rfl, g, rfl, hg, hrow⟩ := hw2 H1.out
      rw [Int.toNat_natCast] at hrow ⊢
      have hs1 := ho1.size
      have ho12 := ho1.trans ho2
      go_wp2_with fail
      go_loopw [33] (fun t wr => ∃ k : Nat, k ≤ n ∧ t = .int .i64 k ∧ Turn w2 p l wr (m.puts (to / 8) (fun k => m.h (src / 8 + k)) k)) (fun t _ => n - (intOf t).toNat)
      case atStart => exact ⟨0, Nat.zero_le _, rfl, Turn.same (HH.out.still ho12) (Only.refl _ _)⟩
      case round =>
        obtain ⟨k, hk, rfl, hT⟩ := hrel
        by_cases hlt : k < n
        · obtain ⟨a1, a2, a3, _⟩ := c3 (by omega)
          have d1 : decide ((k : Int) < n) = true := decide_eq_true (by omega)
          have t1 : to.tdiv 8 = to / 8 := Int.tdiv_eq_ediv_of_nonneg a1
          have q1 : 0 ≤ to / 8 := by omega
          have q2 : to / 8 ≤ 32768 := by omega
          obtain ⟨ho, l', hs', hl'⟩ := hT
          have hpn := SpM.puts_n m (to / 8) (fun k => m.h (src / 8 + k)) k
          have CP := Lib.hid (put_any (HE.out.only (ho12.of_nil.trans ho) HH.out.l3) hs' (to / 8 + k) (m.h (src / 8 + k)) (by omega) (by rw [hpn]; omega) (HV.out _))
          have y0 := (hrow.only ho (fun hb => by have := HH.out.lt _ hb; omega)).cell hlt
          have HHO := Lib.hid ho
          have HL := Lib.hid hl'
          clear ho hs' hl' a3 c3
          go_wp2_with fail
          refine CP.out.mono ?_
          rintro e w3 ⟨rfl, ht⟩
          go_wp2_with fail
          go_roundw
          case rel => exact ⟨k + 1, by omega, by go_num, Turn.step HHO.out HL.out ht⟩
          case measure => simp [intOf]; omega
        · have e : k = n := by omega
          subst e
          have d1 : decide ((k : Int) < k) = false := decide_eq_false (by omega)
          go_wp2_with fail
          go_ret
          exact ⟨by rw [E0.out]; rfl, by rw [EF.out]; exact Turn.first ho12 hT⟩
    · have E0 := Lib.hid (show m.copyE to src words = m.cnt src words by unfold SpM.copyE; rw [if_pos h0])
      have EF := Lib.hid (show m.copyM to src words = m from if_neg (by rw [E0.out]; exact h1))
      have d1 : (m.cnt src words == 0) = false := beq_eq_false_iff_ne.2 h1
      have d2 : (m.cnt src words != 0) = true := bne_iff_ne.2 h1
      have H1 := Lib.hid h1
      clear h hE h0 h1
      go_enter Tryd.func29, Tryd.ntmps29
      go_wp2_with (first | (go_at_call 48; refine Grew.use CA.out (fun w1 ho1 => ?_)))
      refine (CW.out _ ho1).mono ?_
      rintro e w2 ⟨ho2, _, hw2⟩
      rw [hw2 H1.out]
      go_wp2_with fail
      go_ret
      exact ⟨by rw [E0.out]; rfl, by rw [EF.out]; exact Turn.same HH.out (ho1.trans ho2)⟩
  · have E0 := Lib.hid (show m.copyE to src words = m.cnt to words from if_neg h0)
    have EF := Lib.hid (show m.copyM to src words = m from if_neg (by rw [E0.out]; exact h0))
    have d1 : (m.cnt to words == 0) = false := beq_eq_false_iff_ne.2 h0
    have d2 : (m.cnt to words != 0) = true := bne_iff_ne.2 h0
    clear h hE h0
    go_enter Tryd.func29, Tryd.ntmps29
    go_wp2_with (first | (go_at_call 48; refine Grew.use CA.out (fun w1 ho1 => ?_)))
    go_ret
    exact ⟨by rw [E0.out]; rfl, by rw [EF.out]; exact Turn.same HH.out ho1⟩
end Go.Proofs.YtmalmkccgjeboaaDoor
