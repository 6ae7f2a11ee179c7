/- Contracts of the span's reading methods. -/
import Derived.Test.YtlmjelcnldlagaaBase
import Derived.Test.YtlmjelcnldlagaaSpPure
set_option linter.unusedVariables false
set_option linter.unusedSimpArgs false
namespace Go.Proofs.Ytlmjelcnldlagaa
open Go.RowKit

structure SpanAt (w : World) (p q cap : Nat) (s : Sp) : Prop where
  head : Blk w p 102 #[.int .i64 s.start, .int .i64 s.size, .int .i64 s.pages, .int .i64 s.batch, .slice (some ⟨q, 0, none⟩) s.st.length cap, .int .i64 s.many]
  row : ∃ cs : Array Value, Blk w q 3 cs ∧ ∀ i, i < s.st.length → cs[i]? = some (.int .i64 (s.st.getD i 0))
  good : s.Good

namespace SpanAt
variable {w w' : World} {p q cap : Nat} {s : Sp}
theorem c0 (h : SpanAt w p q cap s) : w.cell? ⟨p, 0, none⟩ = some (.int .i64 s.start) := h.head.cell_ 0 rfl
theorem c1 (h : SpanAt w p q cap s) : w.cell? ⟨p, 1, none⟩ = some (.int .i64 s.size) := h.head.cell_ 1 rfl
theorem c2 (h : SpanAt w p q cap s) : w.cell? ⟨p, 2, none⟩ = some (.int .i64 s.pages) := h.head.cell_ 2 rfl
theorem c3 (h : SpanAt w p q cap s) : w.cell? ⟨p, 3, none⟩ = some (.int .i64 s.batch) := h.head.cell_ 3 rfl
theorem c4 (h : SpanAt w p q cap s) : w.cell? ⟨p, 4, none⟩ = some (.slice (some ⟨q, 0, none⟩) s.st.length cap) := h.head.cell_ 4 rfl
theorem c5 (h : SpanAt w p q cap s) : w.cell? ⟨p, 5, none⟩ = some (.int .i64 s.many) := h.head.cell_ 5 rfl
theorem at_ (h : SpanAt w p q cap s) (i : Nat) (hi : i < s.st.length) : w.cell? ⟨q, i, none⟩ = some (.int .i64 (s.st.getD i 0)) := by
  obtain ⟨cs, hb, hc⟩ := h.row
  exact hb.cell_ i (hc i hi)
theorem ne (h : SpanAt w p q cap s) : p ≠ q := by
  obtain ⟨cs, hb, hc⟩ := h.row
  exact h.head.ne_ hb (by decide)
theorem only {l : List Nat} (h : SpanAt w p q cap s) (ho : Only l w w') (hp : p ∉ l) (hq : q ∉ l) : SpanAt w' p q cap s := by
  obtain ⟨cs, hb, hc⟩ := h.row
  exact ⟨h.head.only ho hp, ⟨cs, hb.only ho hq, hc⟩, h.good⟩
theorem drewN (h : SpanAt w p q cap s) (n : Nat) : SpanAt (w.drewN n) p q cap s := ⟨h.head, h.row, h.good⟩
theorem drew (h : SpanAt w p q cap s) : SpanAt w.drew p q cap s := ⟨h.head, h.row, h.good⟩
theorem alloc (h : SpanAt w p q cap s) (o : Obj) : SpanAt (w.alloc o) p q cap s := h.only ((Only.refl [] w).alloc o) (by simp) (by simp)
theorem ltp (h : SpanAt w p q cap s) : p < w.heap.size := h.head.lt
theorem ltq (h : SpanAt w p q cap s) : q < w.heap.size := by obtain ⟨cs, hb, _⟩ := h.row; exact hb.lt
end SpanAt


/-- Neither New nor Clone made it: nil, or a struct of zeros. -/
def Unmade (w : World) (v : Value) : Prop := v = .pointer none ∨ ∃ p, v = .pointer (some ⟨p, 0, none⟩) ∧ Blk w p 102 #[.int .i64 0, .int .i64 0, .int .i64 0, .int .i64 0, .slice none 0 0, .int .i64 0]

set_option maxHeartbeats 400000 in
theorem made_un {w v} (h : Unmade w v) : Still Try.prog 68 #[v] w (.bool false) := by
  rcases h with rfl | ⟨p, rfl, h⟩
  · go_enter Try.func68, Try.ntmps68
    go_wp2
    go_ret
    exact ⟨rfl, rfl⟩
  · have h4 := h.cell_ 4 rfl
    clear h
    go_enter Try.func68, Try.ntmps68
    go_wp2
    go_ret
    exact ⟨rfl, rfl⟩

set_option maxHeartbeats 400000 in
theorem made_at {w p q cap s} (h : SpanAt w p q cap s) : Still Try.prog 68 #[.pointer (some ⟨p, 0, none⟩)] w (.bool true) := by
  have h4 := h.c4
  have hn := h.good.n1
  have hn' : 0 < s.st.length := hn
  clear h
  go_enter Try.func68, Try.ntmps68
  go_wp2
  go_ret
  exact ⟨by simp, rfl⟩

set_option maxHeartbeats 400000 in
theorem addr_at {w p q cap s} (h : SpanAt w p q cap s) (i : Int) (hi0 : 0 ≤ i) (hi1 : i ≤ s.st.length) : Quiet Try.prog 93 #[.pointer (some ⟨p, 0, none⟩), .int .i64 i] w (.int .i64 (s.start * 256 + i * s.size)) := by
  have h0 := h.c0
  have h1 := h.c1
  have hb1 := h.good.b1
  have hb2 := h.good.b2
  have hp1 := h.good.p1
  have hp2 := h.good.p2
  obtain ⟨ho1, ho2⟩ := h.good.off hi0 hi1
  clear h
  go_enter Try.func93, Try.ntmps93
  go_wp2
  go_quiet (fail)
  go_wp2
  go_ret
  exact ⟨rfl, (by repeat (first | exact Dr.refl _ | refine Dr.drewN ?_ _ | refine Dr.drew ?_))⟩

theorem addr_0 {w p q cap s} (h : SpanAt w p q cap s) : Quiet Try.prog 93 #[.pointer (some ⟨p, 0, none⟩), .int .i64 0] w (.int .i64 (s.start * 256)) := by
  have := addr_at h 0 (by omega) (by omega)
  rwa [show s.start * 256 + 0 * s.size = s.start * 256 by omega] at this

theorem Sp.idx_lt {s : Sp} {a : Int} (h : a < s.start * 256) : s.idx a = (0, 8) := by unfold Sp.idx; rw [if_pos h]
theorem Sp.idx_ge {s : Sp} {a : Int} (h : ¬ a < s.start * 256) (h' : (s.st.length : Int) * s.size ≤ a - s.start * 256) : s.idx a = (0, 8) := by unfold Sp.idx; rw [if_neg h, if_pos h']
theorem Sp.idx_in {s : Sp} {a : Int} (h : ¬ a < s.start * 256) (h' : ¬ (s.st.length : Int) * s.size ≤ a - s.start * 256) : s.idx a = ((a - s.start * 256) / s.size, 0) := by unfold Sp.idx; rw [if_neg h, if_neg h']

set_option maxHeartbeats 800000 in
theorem Index_at {w p q cap s} (h : SpanAt w p q cap s) (a : Int) (ha0 : -9223372036854775808 ≤ a) (ha1 : a ≤ 9223372036854775807) : Quiet Try.prog 71 #[.pointer (some ⟨p, 0, none⟩), .int .i64 a] w (.tuple #[.int .i64 (s.idx a).1, .int .i64 (s.idx a).2]) := by
  have h0 := h.c0
  have h1 := h.c1
  have h4 := h.c4
  have hs1 := h.good.s1
  have hb1 := h.good.b1
  have hb2 := h.good.b2
  have hp1 := h.good.p1
  have hp2 := h.good.p2
  have hn2 := h.good.n2
  have hl := h.good.len
  obtain ⟨ho1, ho2⟩ := h.good.off (i := s.st.length) (by omega) (by omega)
  have hs0 : (s.size == 0) = false := beq_eq_false_iff_ne.2 (by omega)
  by_cases hlt : a < s.start * 256
  · have d1 : decide (a < s.start * 256) = true := decide_eq_true hlt
    have HE := Lib.hid (Sp.idx_lt hlt)
    go_enter Try.func71, Try.ntmps71
    go_wp2_with fail
    refine Still.use (made_at h) ?_
    go_wp2_with fail
    refine Quiet.use (addr_0 h) (fun n => ?_)
    go_wp2_with fail
    go_quiet ((go_at_call 93; exact (addr_0 (h.drewN _)).qa))
    go_wp2_with fail
    go_ret2
    exact ⟨by rw [HE.out]; rfl, (by repeat (first | exact Dr.refl _ | refine Dr.drewN ?_ _ | refine Dr.drew ?_))⟩
  · have d1 : decide (a < s.start * 256) = false := decide_eq_false hlt
    by_cases hge : (s.st.length : Int) * s.size ≤ a - s.start * 256
    all_goals
      first | (have d2 : decide ((s.st.length : Int) * s.size ≤ a - s.start * 256) = true := decide_eq_true hge; have HE := Lib.hid (Sp.idx_ge hlt hge)) | (have d2 : decide ((s.st.length : Int) * s.size ≤ a - s.start * 256) = false := decide_eq_false hge; have HE := Lib.hid (Sp.idx_in hlt hge))
      go_enter Try.func71, Try.ntmps71
      go_wp2_with fail
      refine Still.use (made_at h) ?_
      go_wp2_with fail
      refine Quiet.use (addr_0 h) (fun n => ?_)
      go_wp2_with fail
      go_quiet ((go_at_call 93; exact (addr_0 (h.drewN _)).qa))
      go_wp2_with fail
      go_ret2
      exact ⟨by rw [HE.out]; rfl, (by repeat (first | exact Dr.refl _ | refine Dr.drewN ?_ _ | refine Dr.drew ?_))⟩

theorem Sp.idx_range {s : Sp} (hg : s.Good) (a : Int) : 0 ≤ (s.idx a).1 ∧ (s.idx a).1 < s.st.length ∧ ((s.idx a).2 = 0 ∨ (s.idx a).2 = 8) := by
  have h1 := hg.s1
  have h2 := hg.n1
  by_cases hlt : a < s.start * 256
  · rw [Sp.idx_lt hlt]; simp; omega
  · by_cases hge : (s.st.length : Int) * s.size ≤ a - s.start * 256
    · rw [Sp.idx_ge hlt hge]; simp; omega
    · rw [Sp.idx_in hlt hge]
      refine ⟨Int.ediv_nonneg (by omega) (by omega), ?_, .inl rfl⟩
      exact Int.ediv_lt_of_lt_mul (by omega) (by omega)

theorem Sp.obj_yes {s : Sp} {a : Int} (h : (s.idx a).2 = 0) (h' : s.start * 256 + (s.idx a).1 * s.size = a) : s.obj a = s.idx a := by unfold Sp.obj Sp.at_; rw [if_pos h, if_pos h']
theorem Sp.obj_no {s : Sp} {a : Int} (h : (s.idx a).2 = 0) (h' : ¬ s.start * 256 + (s.idx a).1 * s.size = a) : s.obj a = (0, 8) := by unfold Sp.obj Sp.at_; rw [if_pos h, if_neg h']
theorem Sp.obj_out {s : Sp} {a : Int} (h : ¬ (s.idx a).2 = 0) : s.obj a = s.idx a := by unfold Sp.obj; rw [if_neg h]
theorem Sp.obj_range {s : Sp} (hg : s.Good) (a : Int) : 0 ≤ (s.obj a).1 ∧ (s.obj a).1 < s.st.length ∧ ((s.obj a).2 = 0 ∨ (s.obj a).2 = 8) := by
  have := s.idx_range hg a
  have := hg.n1
  unfold Sp.obj
  split
  · split
    · assumption
    · simp; omega
  · assumption

end Go.Proofs.Ytlmjelcnldlagaa
