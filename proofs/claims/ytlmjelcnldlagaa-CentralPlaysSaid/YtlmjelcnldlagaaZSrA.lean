/- The reference's span: contracts of its reading methods. -/
import Derived.Test.YtlmjelcnldlagaaPA
import Derived.Test.YtlmjelcnldlagaaZSpM
set_option linter.unusedVariables false
set_option linter.unusedSimpArgs false
namespace Go.Proofs.Ytlmjelcnldlagaa
open Go.RowKit

structure RefAt (w : World) (p q cap : Nat) (s : Sp) : Prop where
  head : Blk w p 114 #[.int .i64 s.size, .int .i64 s.pages, .int .i64 s.batch, .int .i64 s.start, .slice (some ⟨q, 0, none⟩) s.st.length cap]
  row : ∃ cs : Array Value, Blk w q 4 cs ∧ ∀ i, i < s.st.length → cs[i]? = some (.bool (s.st.getD i 0 == 1))
  good : s.Good

namespace RefAt
variable {w w' : World} {p q cap : Nat} {s : Sp}
theorem c0 (h : RefAt w p q cap s) : w.cell? ⟨p, 0, none⟩ = some (.int .i64 s.size) := h.head.cell_ 0 rfl
theorem c1 (h : RefAt w p q cap s) : w.cell? ⟨p, 1, none⟩ = some (.int .i64 s.pages) := h.head.cell_ 1 rfl
theorem c2 (h : RefAt w p q cap s) : w.cell? ⟨p, 2, none⟩ = some (.int .i64 s.batch) := h.head.cell_ 2 rfl
theorem c3 (h : RefAt w p q cap s) : w.cell? ⟨p, 3, none⟩ = some (.int .i64 s.start) := h.head.cell_ 3 rfl
theorem c4 (h : RefAt w p q cap s) : w.cell? ⟨p, 4, none⟩ = some (.slice (some ⟨q, 0, none⟩) s.st.length cap) := h.head.cell_ 4 rfl
theorem at_ (h : RefAt w p q cap s) (i : Nat) (hi : i < s.st.length) : w.cell? ⟨q, i, none⟩ = some (.bool (s.st.getD i 0 == 1)) := by
  obtain ⟨cs, hb, hc⟩ := h.row
  exact hb.cell_ i (hc i hi)
theorem only {l : List Nat} (h : RefAt w p q cap s) (ho : Only l w w') (hp : p ∉ l) (hq : q ∉ l) : RefAt w' p q cap s := by
  obtain ⟨cs, hb, hc⟩ := h.row
  exact ⟨h.head.only ho hp, ⟨cs, hb.only ho hq, hc⟩, h.good⟩
theorem drewN (h : RefAt w p q cap s) (n : Nat) : RefAt (w.drewN n) p q cap s := ⟨h.head, h.row, h.good⟩
theorem drew (h : RefAt w p q cap s) : RefAt w.drew p q cap s := ⟨h.head, h.row, h.good⟩
theorem dr (h : RefAt w p q cap s) (hd : Dr w w') : RefAt w' p q cap s := by obtain ⟨n, rfl⟩ := hd; exact h.drewN n
theorem alloc (h : RefAt w p q cap s) (o : Obj) : RefAt (w.alloc o) p q cap s := h.only ((Only.refl [] w).alloc o) (by simp) (by simp)
theorem ltp (h : RefAt w p q cap s) : p < w.heap.size := h.head.lt
theorem ltq (h : RefAt w p q cap s) : q < w.heap.size := by obtain ⟨cs, hb, _⟩ := h.row; exact hb.lt
theorem ne (h : RefAt w p q cap s) : p ≠ q := by
  obtain ⟨cs, hb, hc⟩ := h.row
  exact h.head.ne_ hb (by decide)
end RefAt

set_option maxHeartbeats 400000 in
theorem rmade_nil (w : World) : Still Try.prog 82 #[.pointer none] w (.bool false) := by
  go_enter Try.func82, Try.ntmps82
  go_wp2
  go_ret
  exact ⟨rfl, rfl⟩

set_option maxHeartbeats 400000 in
theorem rmade_at {w p q cap s} (h : RefAt w p q cap s) : Still Try.prog 82 #[.pointer (some ⟨p, 0, none⟩)] w (.bool true) := by
  have h4 := h.c4
  have hn' : 0 < s.st.length := h.good.n1
  clear h
  go_enter Try.func82, Try.ntmps82
  go_wp2
  go_ret
  exact ⟨by simp, rfl⟩

set_option maxHeartbeats 400000 in
theorem rAt_at {w p q cap s} (h : RefAt w p q cap s) (i : Int) (hi0 : 0 ≤ i) (hi1 : i ≤ s.st.length) : Quiet Try.prog 91 #[.pointer (some ⟨p, 0, none⟩), .int .i64 i] w (.int .i64 (s.start * 256 + i * s.size)) := by
  have h0 := h.c0
  have h3 := h.c3
  have hb1 := h.good.b1
  have hb2 := h.good.b2
  have hp1 := h.good.p1
  have hp2 := h.good.p2
  obtain ⟨ho1, ho2⟩ := h.good.off hi0 hi1
  clear h
  go_enter Try.func91, Try.ntmps91
  go_wp2
  go_quiet (fail)
  go_wp2
  go_ret
  exact ⟨rfl, (by repeat (first | exact Dr.refl _ | refine Dr.drewN ?_ _ | refine Dr.drew ?_))⟩

def Sp.robj (s : Sp) (a : Int) : Int := if (s.obj a).2 = 0 then (s.obj a).1 else -1
theorem Sp.robj_at {s : Sp} (hg : s.Good) {a : Int} {k : Nat} (hk : k < s.st.length) (h : s.start * 256 + k * s.size = a) : s.robj a = k ∧ s.obj a = ((k : Int), (0 : Int)) := by
  have h1 := idx_of_obj hg (i := (k : Int)) (m := 0) (by omega) (by omega) (by omega) (by have := hg.s1; omega)
  rw [Int.add_zero, h] at h1
  have h2 : s.obj a = ((k : Int), (0 : Int)) := by rw [Sp.obj_yes (by rw [h1]) (by rw [h1]; exact h), h1]
  exact ⟨by unfold Sp.robj; rw [h2, if_pos rfl], h2⟩
theorem Sp.robj_none {s : Sp} (hg : s.Good) {a : Int} (h : ∀ j, j < s.st.length → s.start * 256 + (j : Int) * s.size ≠ a) : s.robj a = -1 ∧ (s.obj a).2 = 8 := by
  obtain ⟨r1, r2, r3⟩ := s.obj_range hg a
  rcases r3 with r3 | r3
  · exfalso
    have hy : s.start * 256 + (s.idx a).1 * s.size = a ∧ s.obj a = s.idx a := by
      by_cases h0 : (s.idx a).2 = 0
      · by_cases h1 : s.start * 256 + (s.idx a).1 * s.size = a
        · exact ⟨h1, Sp.obj_yes h0 h1⟩
        · rw [Sp.obj_no h0 h1] at r3
          cases r3
      · rw [Sp.obj_out h0] at r3
        exact absurd r3 h0
    rw [hy.2] at r1 r2
    obtain ⟨k, hk⟩ := Int.eq_ofNat_of_zero_le r1
    have := h k (by omega)
    rw [hk] at hy
    exact this hy.1
  · exact ⟨by unfold Sp.robj; rw [r3]; rfl, r3⟩

set_option maxHeartbeats 800000 in
theorem robject_at {w p q cap s} (h : RefAt w p q cap s) (a : Int) : Quiet Try.prog 97 #[.pointer (some ⟨p, 0, none⟩), .int .i64 a] w (.int .i64 (s.robj a)) := by
  have hl := h.good.len
  have hg := Lib.hid h.good
  go_enter Try.func97, Try.ntmps97
  go_wp2
  go_loopw [5] (fun t wr => ∃ k : Nat, k ≤ s.st.length ∧ t = .int .i64 k ∧ Dr w wr ∧ Hid (∀ j, j < k → s.start * 256 + (j : Int) * s.size ≠ a)) (fun t _ => s.st.length - (intOf t).toNat)
  case atStart => exact ⟨0, Nat.zero_le _, rfl, Dr.refl _, fun j hj => absurd hj (by omega)⟩
  case round =>
    obtain ⟨k, hk, rfl, hd, HN⟩ := hrel
    have hr := h.dr hd
    have h4 := hr.c4
    by_cases hlt : k < s.st.length
    · by_cases hv : s.start * 256 + (k : Int) * s.size = a
      · have HE := Lib.hid (Sp.robj_at hg.out hlt hv).1
        have d1 : (s.start * 256 + (k : Int) * s.size == a) = true := beq_iff_eq.2 hv
        clear hv
        go_wp2_with (first | (go_at_call 91; refine Quiet.use (rAt_at hr k (by omega) (by omega)) (fun n => ?_)))
        go_ret
        exact ⟨by rw [HE.out]; rfl, hd.drewN _⟩
      · have HN' : Hid (∀ j, j < k + 1 → s.start * 256 + (j : Int) * s.size ≠ a) := fun j hj => by
          rcases Nat.lt_or_ge j k with h1 | h1
          · exact HN.out j h1
          · rw [show j = k by omega]; exact hv
        have d1 : (s.start * 256 + (k : Int) * s.size == a) = false := beq_eq_false_iff_ne.2 hv
        clear hv
        go_wp2_with (first | (go_at_call 91; refine Quiet.use (rAt_at hr k (by omega) (by omega)) (fun n => ?_)))
        go_roundw
        case rel => exact ⟨k + 1, by omega, by go_num, hd.drewN _, HN'⟩
        case measure => simp [intOf]; omega
    · have HE := Lib.hid (Sp.robj_none hg.out (a := a) (fun j hj => HN.out j (by omega))).1
      go_wp2_with fail
      go_ret
      exact ⟨by rw [HE.out]; rfl, hd⟩

set_option maxHeartbeats 800000 in
theorem rIndex_at {w p q cap s} (h : RefAt w p q cap s) (a : Int) : Quiet Try.prog 90 #[.pointer (some ⟨p, 0, none⟩), .int .i64 a] w (.tuple #[.int .i64 (s.idx a).1, .int .i64 (s.idx a).2]) := by
  have hl := h.good.len
  have hg := Lib.hid h.good
  go_enter Try.func90, Try.ntmps90
  go_wp2_with (first | (go_at_call 82; refine Still.use (rmade_at h) ?_))
  go_loopw [6] (fun t wr => ∃ k : Nat, k ≤ s.st.length ∧ t = .int .i64 k ∧ Dr w wr ∧ Hid (a < s.start * 256 ∨ s.start * 256 + (k : Int) * s.size ≤ a)) (fun t _ => s.st.length - (intOf t).toNat)
  case atStart => exact ⟨0, Nat.zero_le _, rfl, Dr.refl _, by show _ ∨ _; omega⟩
  case round =>
    obtain ⟨k, hk, rfl, hd, HN⟩ := hrel
    have hr := h.dr hd
    have h4 := hr.c4
    by_cases hlt : k < s.st.length
    · have hn1 : ((k : Int) + 1) * s.size = k * s.size + s.size := by rw [Int.add_mul]; omega
      have hs1 := hg.out.s1
      by_cases h1 : s.start * 256 + (k : Int) * s.size ≤ a
      · have d1 : decide (s.start * 256 + (k : Int) * s.size ≤ a) = true := decide_eq_true h1
        by_cases h2 : a < s.start * 256 + ((k : Int) + 1) * s.size
        · have HE : Hid (s.idx a = ((k : Int), (0 : Int))) := by
            have := idx_of_obj hg.out (i := (k : Int)) (m := a - (s.start * 256 + (k : Int) * s.size)) (by omega) (by omega) (by omega) (by omega)
            rwa [show s.start * 256 + (k : Int) * s.size + (a - (s.start * 256 + (k : Int) * s.size)) = a by omega] at this
          have d2 : decide (a < s.start * 256 + ((k : Int) + 1) * s.size) = true := decide_eq_true h2
          clear h1 h2 hn1
          go_wp2_with (first | (go_at_call 91; (with_reducible refine Quiet.use (rAt_at hr k (by omega) (by omega)) (fun n => ?_))) | (go_at_call 91; (with_reducible refine Quiet.use (rAt_at (hr.drewN _) ((k : Int) + 1) (by omega) (by omega)) (fun m => ?_))))
          go_ret2
          exact ⟨by rw [HE.out]; rfl, by rw [← World.drewN_drewN]; exact (hd.drewN _).drewN _⟩
        · have HN' : Hid (a < s.start * 256 ∨ s.start * 256 + ((k + 1 : Nat) : Int) * s.size ≤ a) := by show _ ∨ _; right; rw [Int.natCast_add]; simp only [Int.cast_ofNat_Int]; omega
          have d2 : decide (a < s.start * 256 + ((k : Int) + 1) * s.size) = false := decide_eq_false h2
          clear h1 h2 hn1
          go_wp2_with (first | (go_at_call 91; (with_reducible refine Quiet.use (rAt_at hr k (by omega) (by omega)) (fun n => ?_))) | (go_at_call 91; (with_reducible refine Quiet.use (rAt_at (hr.drewN _) ((k : Int) + 1) (by omega) (by omega)) (fun m => ?_))))
          go_roundw
          case rel => exact ⟨k + 1, by omega, by go_num, by rw [← World.drewN_drewN]; exact (hd.drewN _).drewN _, HN'⟩
          case measure => simp [intOf]; omega
      · have d1 : decide (s.start * 256 + (k : Int) * s.size ≤ a) = false := decide_eq_false h1
        have HN' : Hid (a < s.start * 256 ∨ s.start * 256 + ((k + 1 : Nat) : Int) * s.size ≤ a) := by
          show _ ∨ _
          rcases HN.out with h3 | h3
          · exact .inl h3
          · exact absurd h3 h1
        clear h1 hn1
        go_wp2_with (first | (go_at_call 91; (with_reducible refine Quiet.use (rAt_at hr k (by omega) (by omega)) (fun n => ?_))))
        go_roundw
        case rel => exact ⟨k + 1, by omega, by go_num, hd.drewN _, HN'⟩
        case measure => simp [intOf]; omega
    · have e : k = s.st.length := by omega
      have HE : Hid (s.idx a = (0, 8)) := by
        show _ = _
        rcases HN.out with h3 | h3
        · exact Sp.idx_lt h3
        · rw [e] at h3
          by_cases h4 : a < s.start * 256
          · exact Sp.idx_lt h4
          · exact Sp.idx_ge h4 (by omega)
      go_wp2_with fail
      go_ret2
      exact ⟨by rw [HE.out]; rfl, hd⟩

set_option maxHeartbeats 800000 in
theorem rIsTaken_at {w p q cap s} (h : RefAt w p q cap s) (a : Int) : Quiet Try.prog 92 #[.pointer (some ⟨p, 0, none⟩), .int .i64 a] w (.tuple #[.bool (s.tkn a).1, .int .i64 (s.tkn a).2]) := by
  have hl := h.good.len
  have C := robject_at h a
  have h4 := h.c4
  obtain ⟨r1, r2, r3⟩ := s.obj_range h.good a
  rcases r3 with r3 | r3
  · obtain ⟨k, hk⟩ := Int.eq_ofNat_of_zero_le r1
    rw [hk] at r2
    rw [show s.robj a = k by unfold Sp.robj; rw [r3, if_pos rfl, hk]] at C
    rw [show s.tkn a = (s.st.getD k 0 == 1, 0) by unfold Sp.tkn; rw [r3, if_pos rfl, hk, Int.toNat_natCast]]
    have hx := h.at_ k (by omega)
    have CH := Lib.hid C
    clear C hk r3 r1
    generalize (s.st.getD k 0 == 1) = x at *
    go_enter Try.func92, Try.ntmps92
    go_wp2_with (first | (go_at_call 82; refine Still.use (rmade_at h) ?_) | (go_at_call 97; refine Quiet.use CH.out (fun n => ?_)))
    go_ret2
    exact ⟨rfl, (by repeat (first | exact Dr.refl _ | refine Dr.drewN ?_ _ | refine Dr.drew ?_))⟩
  · rw [show s.robj a = -1 by unfold Sp.robj; rw [r3]; rfl] at C
    rw [show s.tkn a = (false, 8) by unfold Sp.tkn; rw [r3]; rfl]
    have CH := Lib.hid C
    clear C r3
    go_enter Try.func92, Try.ntmps92
    go_wp2_with (first | (go_at_call 82; refine Still.use (rmade_at h) ?_) | (go_at_call 97; refine Quiet.use CH.out (fun n => ?_)))
    go_ret2
    exact ⟨rfl, (by repeat (first | exact Dr.refl _ | refine Dr.drewN ?_ _ | refine Dr.drew ?_))⟩

set_option maxHeartbeats 400000 in
theorem rObjects_at {w p q cap s} (h : RefAt w p q cap s) : Still Try.prog 85 #[.pointer (some ⟨p, 0, none⟩)] w (.int .i64 s.st.length) := by
  have h4 := h.c4
  go_enter Try.func85, Try.ntmps85
  go_wp2_with (first | (go_at_call 82; refine Still.use (rmade_at h) ?_))
  go_ret
  exact ⟨rfl, rfl⟩
end Go.Proofs.Ytlmjelcnldlagaa
