/- The reference's span: Bits, List, Taken, Run, Class. -/
import Derived.Test.YtlmjelcnldlagaaZSrB
set_option linter.unusedVariables false
set_option linter.unusedSimpArgs false
namespace Go.Proofs.Ytlmjelcnldlagaa
open Go.RowKit

theorem sum_take_succ (l : List Int) (k : Nat) (hk : k < l.length) : (l.take (k + 1)).sum = (l.take k).sum + l.getD k 0 := by
  rw [List.take_succ_eq_append_getElem hk, List.sum_append]
  simp [List.getD_eq_getElem?_getD, List.getElem?_eq_getElem hk]
theorem Sp.list_length {s : Sp} (hg : s.Good) : (s.list.length : Int) = s.many := by
  have key : ∀ k, k ≤ s.st.length → ((s.listTo k).length : Int) = (s.st.take k).sum := by
    intro k
    induction k with
    | zero => intro _; simp [Sp.listTo]
    | succ k ih =>
      intro hk
      have h1 := ih (by omega)
      have h2 := hg.bits k (by omega)
      rw [sum_take_succ _ _ (by omega), ← h1]
      simp only [Sp.listTo, List.length_append]
      rcases h2 with h2 | h2 <;> rw [h2] <;> simp
  rw [Sp.list, key _ (Nat.le_refl _), List.take_length, hg.cnt]

def Sp.bitsTo (s : Sp) (k : Nat) : ByteArray := strOfNums ((s.st.take k).map (48 + ·))
theorem Sp.bitsTo_size (s : Sp) (k : Nat) (hk : k ≤ s.st.length) : (s.bitsTo k).size = k := by unfold Sp.bitsTo; rw [strOfNums_size, List.length_map, List.length_take, Nat.min_eq_left hk]
theorem Sp.bitsTo_succ {s : Sp} (k : Nat) (hk : k < s.st.length) (c : UInt8) (hc : UInt8.ofNat (48 + s.st.getD k 0).toNat = c) (hl : s.st.length ≤ 128) (W : World) : (Op.stringOp .add (s.bitsTo k) ⟨#[c]⟩).run Try.prog W = .ok (.string (s.bitsTo (k + 1))) W := by
  rw [run_string_add_sum W _ _ (by rw [s.bitsTo_size k (by omega), show (ByteArray.mk #[c]).size = 1 from rfl]; omega)]
  congr 2
  apply ByteArray.ext
  rw [ByteArray.data_append]
  apply Array.toList_inj.1
  rw [Array.toList_append]
  unfold Sp.bitsTo
  rw [strOfNums_data, strOfNums_data, List.take_succ_eq_append_getElem hk]
  simp only [List.map_append, List.map_cons, List.map_nil]
  rw [← hc]
  simp [List.getD_eq_getElem?_getD, List.getElem?_eq_getElem hk]

set_option maxHeartbeats 1000000 in
theorem rList_at {w p q cap s} (h : RefAt w p q cap s) : Calls Try.prog 96 #[.pointer (some ⟨p, 0, none⟩)] w fun e w' =>
    ∃ v, e = .returned v ∧ w'.ownsRow w.heap.size 3 1 v s.list.length (s.list.map (Value.int .i64)) ∧ Only [] w w' := by
  have hl := h.good.len
  have hg := Lib.hid h.good
  obtain ⟨i0, hi, hz0, hz1, hz2⟩ := info_parts info_int
  go_enter Try.func96, Try.ntmps96
  go_wp2_with (first | (go_at_call 82; refine Still.use (rmade_at h) ?_))
  go_loopw [3, 4] (fun v t wr => ∃ k : Nat, k ≤ s.st.length ∧ t = .int .i64 k ∧ Only [] w wr ∧ wr.ownsRow w.heap.size 3 1 v (s.listTo k).length ((s.listTo k).map (Value.int .i64))) (fun _ t _ => s.st.length - (intOf t).toNat)
  case atStart => exact ⟨0, Nat.zero_le _, rfl, Only.refl _ _, World.ownsRow_nil _ _ _ _⟩
  case round =>
    obtain ⟨k, hk, rfl, ho, hown⟩ := hrel
    have hle := s.listTo_le k
    have h' := h.only ho (by simp) (by simp)
    have h4 := h'.c4
    by_cases hlt : k < s.st.length
    · have hx := h'.at_ k hlt
      rcases hg.out.bits k hlt with hv | hv
      · have HL : Hid (s.listTo (k + 1) = s.listTo k) := by show _ = _; simp only [Sp.listTo]; rw [if_neg (by rw [hv]; decide), List.append_nil]
        rw [show (s.st.getD k 0 == 1) = false by rw [hv]; rfl] at hx
        clear hv
        go_wp2
        go_roundw
        case rel => exact ⟨k + 1, by omega, by go_num, ho, by rw [HL.out]; exact hown⟩
        case measure => simp [intOf]; omega
      · have HL : Hid (s.listTo (k + 1) = s.listTo k ++ [s.start * 256 + k * s.size]) := by show _ = _; simp only [Sp.listTo]; rw [if_pos hv]
        rw [show (s.st.getD k 0 == 1) = true by rw [hv]; rfl] at hx
        clear hv
        have hsz := ho.size
        go_wp2_with (first
          | (go_at_call 91; refine Quiet.use (rAt_at h' k (by omega) (by omega)) (fun n => ?_))
          | (at_builtin; refine wpList_append_own _ rfl _ _ 25 rfl w.heap.size 3 i0 (.int .i64 0) 1 8 Try.underlying25 hi hz0 hz1 hz2 rfl (by decide) _ _ _ rfl ((own_drewN hown n).alloc _) ⟨wr.heap.size, 0, none⟩ 1 1 [.int .i64 (s.start * 256 + k * s.size)] rfl rfl (cell_new1 (wr.drewN n) _ _) (by simp; rfl) (by unfold maxLen; omega) (by omega) (by simp; omega) ?_; intro v1 w1 hown1 hg1 _))
        go_roundw
        case rel => exact ⟨k + 1, by omega, by go_num, ((ho.drewN n).alloc _).grown hg1 (fun b hb => .inr (own_base hown b hb)), by rw [HL.out]; simpa using hown1⟩
        case measure => simp [intOf]; omega
    · have e : k = s.st.length := by omega
      subst e
      go_wp2
      go_ret
      exact ⟨_, rfl, hown, ho⟩

set_option maxHeartbeats 400000 in
theorem rTaken_at {w p q cap s} (h : RefAt w p q cap s) : Grew Try.prog 84 #[.pointer (some ⟨p, 0, none⟩)] w (.int .i64 s.many) := by
  have HL := Lib.hid (Sp.list_length h.good)
  go_enter Try.func84, Try.ntmps84
  go_wp2_with (first | (go_at_call 96; refine (rList_at h).mono ?_; rintro e w1 ⟨v, rfl, hown, ho1⟩; obtain ⟨A3, c3, rfl, _⟩ := own_slice hown; clear hown))
  go_ret
  exact ⟨by rw [← HL.out]; rfl, ho1⟩

set_option maxHeartbeats 400000 in
theorem rRun_at {w p q cap s} (h : RefAt w p q cap s) : Grew Try.prog 89 #[.pointer (some ⟨p, 0, none⟩)] w (.agg #[.int .i64 s.start, .int .i64 s.pages]) := by
  go_enter Try.func89, Try.ntmps89
  go_wp2_with (first | (go_at_call 82; refine Still.use (rmade_at (h.alloc _)) ?_))
  have hn := Blk.new w 37 #[.int .i64 0, .int .i64 0]
  have ho := (Only.refl [] w).alloc (.cells #[.int .i64 0, .int .i64 0] 37)
  have h' := h.alloc (.cells #[.int .i64 0, .int .i64 0] 37)
  generalize w.alloc (.cells #[.int .i64 0, .int .i64 0] 37) = w1 at *
  have f0 := h'.c3
  have f2 := h'.c1
  have n0 := hn.cell_ 0 rfl
  have n1 := hn.cell_ 1 rfl
  have z0 := hn.frozen 0
  have z1 := hn.frozen 1
  go_region
  have hn2 := ((hn.set_ 0 (.int .i64 s.start)).set_ 1 (.int .i64 s.pages)).drew
  have ho2 := ((ho.setCell (p := ⟨w.heap.size, 0, none⟩) (.inr (Nat.le_refl _)) (.int .i64 s.start)).setCell (p := ⟨w.heap.size, 1, none⟩) (.inr (Nat.le_refl _)) (.int .i64 s.pages)).drew
  generalize ((w1.setCell ⟨w.heap.size, 0, none⟩ (.int .i64 s.start)).setCell ⟨w.heap.size, 1, none⟩ (.int .i64 s.pages)).drew = w2 at *
  have r0 := hn2.cell_ 0 rfl
  have r1 := hn2.cell_ 1 rfl
  clear f0 f2 n0 n1 z0 z1
  go_wp2
  exact bodyPost_ret (v := .agg #[.int .i64 s.start, .int .i64 s.pages]) (by simp [results, Try.results89, go_sem, r0, r1]) rfl ⟨rfl, ho2⟩

end Go.Proofs.Ytlmjelcnldlagaa
