/- Rows of ints and of runs: read, owned, compared. -/
import Derived.Test.YtlmjelcnldlagaaSpI
import Derived.Deep.AppendLies
import Derived.Maps.AppendAt
set_option linter.unusedVariables false
set_option linter.unusedSimpArgs false
namespace Go.Proofs.Ytlmjelcnldlagaa
open Go.RowKit

/-- Run j of a list of runs. -/
abbrev rAt (l : List (Int × Int)) (j : Nat) : Int × Int := l.getD j (0, 0)
/-- The cells of runs. -/
def cellsR (l : List (Int × Int)) : List Value := l.flatMap fun r => [.int .i64 r.1, .int .i64 r.2]
theorem cellsR_len (l : List (Int × Int)) : (cellsR l).length = l.length * 2 := by
  induction l with
  | nil => rfl
  | cons x l ih =>
    have : cellsR (x :: l) = [.int .i64 x.1, .int .i64 x.2] ++ cellsR l := rfl
    rw [this, List.length_append, ih]
    simp
    omega
theorem cellsR_at (l : List (Int × Int)) (j : Nat) (h : j < l.length) : (cellsR l)[j * 2]? = some (.int .i64 (rAt l j).1) ∧ (cellsR l)[j * 2 + 1]? = some (.int .i64 (rAt l j).2) := by
  induction l generalizing j with
  | nil => simp at h
  | cons x l ih =>
    have e : cellsR (x :: l) = .int .i64 x.1 :: .int .i64 x.2 :: cellsR l := rfl
    rw [e]
    cases j with
    | zero => simp [rAt]
    | succ j =>
      have := ih j (by simpa using h)
      rw [show (j + 1) * 2 = j * 2 + 1 + 1 by omega]
      simpa [rAt] using this
theorem cellsR_append (l m : List (Int × Int)) : cellsR (l ++ m) = cellsR l ++ cellsR m := by simp [cellsR]
/-- A cell of a row of one's own is written. -/
theorem own_set {w : World} {base : Nat} {e : TypeId} {size n g c : Nat} {xs : List Value} (h : w.ownsRow base e size (.slice (some ⟨g, 0, none⟩) n c) n xs) (i : Nat) (u : Value) : (w.setCell ⟨g, i, none⟩ u).ownsRow base e size (.slice (some ⟨g, 0, none⟩) n c) n (xs.set i u) := by
  obtain ⟨h1, h2⟩ := h
  refine ⟨by simpa using h1, ?_⟩
  rcases h2 with ⟨h2, _⟩ | ⟨g', cap, cur, hv, hb, hg, h3, h4, h5, h6⟩
  · cases h2
  · injection hv with e1 _ e3
    injection e1 with e1
    injection e1 with e1 _ _
    subst e1 e3
    have hB : Blk w g e cur := hg
    refine .inr ⟨g, c, cur.setIfInBounds i u, rfl, hb, hB.set_ i u, h3, h4, by simpa using h5, ?_⟩
    rw [← h6, Array.toList_setIfInBounds, List.take_set]
/-- The cells of a row of one's own. -/
theorem own_runs {w : World} {base n g c : Nat} {e : TypeId} {l : List (Int × Int)} (h : w.ownsRow base e 2 (.slice (some ⟨g, 0, none⟩) n c) n (cellsR l)) (hn : n = l.length) {j : Nat} (hj : j < n) :
    w.cell? ⟨g, j * 2, none⟩ = some (.int .i64 (rAt l j).1) ∧ w.cell? ⟨g, j * 2 + 1, none⟩ = some (.int .i64 (rAt l j).2) ∧ (∀ k, w.frozen? ⟨g, k, none⟩ = false) := by
  rcases h.2 with ⟨h2, _⟩ | ⟨g', cap, cur, hv, hb, hg, h3, h4, h5, h6⟩
  · cases h2
  · injection hv with e1 _ e3
    injection e1 with e1
    injection e1 with e1 _ _
    subst e1 e3
    have hB : Blk w g e cur := hg
    have hat : ∀ i u, i < n * 2 → (cellsR l)[i]? = some u → w.cell? ⟨g, i, none⟩ = some u := fun i u hi hu => by
      rw [← h6, List.getElem?_take, if_pos hi, Array.getElem?_toList] at hu
      exact hB.cell_ i hu
    obtain ⟨a1, a2⟩ := cellsR_at l j (by omega)
    exact ⟨hat _ _ (by omega) a1, hat _ _ (by omega) a2, fun k => hB.frozen k⟩
theorem rAt_snoc (l : List (Int × Int)) (j : Nat) (x : Int × Int) : rAt (l ++ [x]) j = if j = l.length then x else rAt l j := by
  unfold rAt
  rw [List.getD_eq_getElem?_getD, List.getD_eq_getElem?_getD]
  by_cases e : j = l.length
  · subst e; simp
  · rw [if_neg e]
    by_cases h : j < l.length
    · rw [List.getElem?_append_left h]
    · rw [List.getElem?_eq_none (by simp; omega), List.getElem?_eq_none (by omega)]
theorem info_run : (Try.prog.info? 37).map (fun i => (i.zero, i.size, i.bytes)) = some (some (.agg #[.int .i64 0, .int .i64 0]), 2, 16) := by kernel_rfl
theorem news_new (w : World) (cs : Array Value) (t : TypeId) : ∀ j u, cs.toList[j]? = some u → (w.alloc (.cells cs t)).cell? ((⟨w.heap.size, 0, none⟩ : Addr).add j) = some u := World.news_of_block (Blk.new w t cs)
theorem own_reads {w : World} {base n : Nat} {v : Value} {l : List Int} (h : w.ownsRow base 3 1 v n (l.map (Value.int .i64))) : ∃ A c, v = .slice A n c ∧ ReadsI w A n l ∧ ∀ ad, A = some ad → base ≤ ad.block := by
  have hl : l.length = n := by have := h.1; simpa using this
  rcases h.2 with ⟨rfl, h0⟩ | ⟨g, cap, cur, rfl, hb, hh, _⟩
  · exact ⟨none, 0, by rw [h0], ⟨hl, fun hp => absurd hp (by omega)⟩, by simp⟩
  · refine ⟨_, cap, rfl, ⟨hl, fun _ => ⟨_, rfl, fun j hj => ?_⟩⟩, by rintro ad e; injection e with e; subst e; exact hb⟩
    rw [add_plain, h.cellAt j (by omega), List.getElem?_map, List.getElem?_eq_getElem (by omega), List.getD_eq_getElem?_getD, List.getElem?_eq_getElem (by omega)]
    rfl
theorem ReadsI.only {w w' : World} {A : Option Addr} {n : Nat} {l : List Int} {L : List Nat} (h : ReadsI w A n l) (ho : Only L w w') (hn : ∀ ad, A = some ad → ad.block ∉ L) : ReadsI w' A n l := by
  obtain ⟨h1, h2⟩ := h
  refine ⟨h1, fun h0 => ?_⟩
  obtain ⟨ad, rfl, hc⟩ := h2 h0
  refine ⟨ad, rfl, fun j hj => ?_⟩
  have hb : (ad.add j).block = ad.block := by unfold Addr.add; split <;> rfl
  exact (ho.cell (World.block_lt_of_cell? w _ (hc j hj)) (by rw [hb]; exact hn ad rfl)).trans (hc j hj)
theorem ReadsI.dr {w w' : World} {A : Option Addr} {n : Nat} {l : List Int} (h : ReadsI w A n l) (hd : Dr w w') : ReadsI w' A n l := h.only (Only.of_dr (l := []) hd) (by simp)
set_option maxHeartbeats 800000 in
theorem ints_same (w : World) (A B : Option Addr) (n c d : Nat) (l : List Int) (ha : ReadsI w A n l) (hb : ReadsI w B n l) (hn : n ≤ 1000000) : Quiet Try.prog 28 #[.slice A n c, .slice B n d] w (.bool true) := by
  go_enter Try.func28, Try.ntmps28
  go_wp2
  go_loopw [5] (fun t wr => ∃ k : Nat, k ≤ n ∧ t = .int .i64 k ∧ Dr w wr) (fun t _ => n - (intOf t).toNat)
  case atStart => exact ⟨0, Nat.zero_le _, rfl, Dr.refl _⟩
  case round =>
    obtain ⟨k, hk, rfl, hd⟩ := hrel
    by_cases hlt : k < n
    · obtain ⟨a1, rfl, hc1⟩ := (ha.dr hd).2 (by omega)
      obtain ⟨a2, rfl, hc2⟩ := (hb.dr hd).2 (by omega)
      have x1 := hc1 k hlt
      have x2 := hc2 k hlt
      clear hc1 hc2 ha hb
      generalize l.getD k 0 = x at x1 x2
      go_wp2
      go_quiet (fail)
      go_wp2
      go_roundw
      case rel => exact ⟨k + 1, by omega, by go_num, hd.drewN _⟩
      case measure => simp [intOf]; omega
    · go_wp2
      go_ret
      exact ⟨rfl, hd⟩
/-- A slice of runs reads as l. -/
def ReadsR (w : World) (v : Value) (n : Nat) (l : List (Int × Int)) : Prop := ∃ A c, v = .slice A n c ∧ (0 < n → ∃ g, A = some ⟨g, 0, none⟩ ∧ ∀ j, j < n → w.cell? ⟨g, j * 2, none⟩ = some (.int .i64 (rAt l j).1) ∧ w.cell? ⟨g, j * 2 + 1, none⟩ = some (.int .i64 (rAt l j).2))
theorem ReadsR.still {w w' : World} {v : Value} {n : Nat} {l : List (Int × Int)} (h : ReadsR w v n l) (ho : Only [] w w') : ReadsR w' v n l := by
  obtain ⟨A, c, rfl, h⟩ := h
  refine ⟨A, c, rfl, fun h0 => ?_⟩
  obtain ⟨g, rfl, hc⟩ := h h0
  exact ⟨g, rfl, fun j hj => ⟨(ho.cell (World.block_lt_of_cell? w _ (hc j hj).1) (by simp)).trans (hc j hj).1, (ho.cell (World.block_lt_of_cell? w _ (hc j hj).2) (by simp)).trans (hc j hj).2⟩⟩
theorem own_readsR {w : World} {base n : Nat} {v : Value} {e : TypeId} {l : List (Int × Int)} (h : w.ownsRow base e 2 v n (cellsR l)) (hn : n = l.length) : ReadsR w v n l := by
  rcases Nat.eq_zero_or_pos n with h0 | h0
  · obtain ⟨A, c, rfl, _⟩ := own_slice h
    exact ⟨A, c, rfl, fun h => absurd h (by omega)⟩
  · obtain ⟨g, c, rfl, _⟩ := own_form h h0
    exact ⟨_, c, rfl, fun _ => ⟨g, rfl, fun j hj => by obtain ⟨a1, a2, _⟩ := own_runs h hn hj; exact ⟨a1, a2⟩⟩⟩
set_option maxHeartbeats 1600000 in
theorem Runs_eq (w : World) (u v : Value) (n : Nat) (l : List (Int × Int)) (hu : ReadsR w u n l) (hv : ReadsR w v n l) (hn : n ≤ 1000000) : Grew Try.prog 30 #[u, v] w (.bool true) := by
  obtain ⟨A, c, rfl, h1⟩ := hu
  obtain ⟨B, d, rfl, h2⟩ := hv
  have H1 := Lib.hid h1
  have H2 := Lib.hid h2
  clear h1 h2
  go_enter Try.func30, Try.ntmps30
  go_wp2_with fail
  go_loopw [5] (fun t wr => ∃ k : Nat, k ≤ n ∧ t = .int .i64 k ∧ Only [] w wr) (fun t _ => n - (intOf t).toNat)
  case atStart => exact ⟨0, Nat.zero_le _, rfl, Only.refl _ _⟩
  case round =>
    obtain ⟨k, hk, rfl, ho⟩ := hrel
    by_cases hlt : k < n
    · obtain ⟨a1, rfl, hc1⟩ := H1.out (by omega)
      obtain ⟨a2, rfl, hc2⟩ := H2.out (by omega)
      have d1 : decide ((k : Int) < n) = true := decide_eq_true (by omega)
      have x1 := (ho.cell (World.block_lt_of_cell? w _ (hc1 k hlt).1) (by simp)).trans (hc1 k hlt).1
      have x2 := (ho.cell (World.block_lt_of_cell? w _ (hc2 k hlt).1) (by simp)).trans (hc2 k hlt).1
      have y1 := (ho.cell (World.block_lt_of_cell? w _ (hc1 k hlt).2) (by simp)).trans (hc1 k hlt).2
      have y2 := (ho.cell (World.block_lt_of_cell? w _ (hc2 k hlt).2) (by simp)).trans (hc2 k hlt).2
      clear hc1 hc2
      generalize (rAt l k).1 = x at x1 x2
      generalize (rAt l k).2 = y at y1 y2
      go_wp2_with fail
      go_quiet (fail)
      go_wp2_with fail
      go_roundw
      case rel => exact ⟨k + 1, by omega, by go_num, ho.drewN _⟩
      case measure => simp [intOf]; omega
    · have e : k = n := by omega
      subst e
      have d1 : decide ((k : Int) < k) = false := decide_eq_false (by omega)
      go_wp2_with fail
      go_ret
      exact ⟨rfl, ho⟩
end Go.Proofs.Ytlmjelcnldlagaa
