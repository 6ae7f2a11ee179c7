/- Contracts of New, State, Pages, Mapped, Dirty and Peak. -/
import Derived.Test.YtmalmkccgjeboaaDoorVJ
set_option linter.unusedVariables false
set_option linter.unusedSimpArgs false
namespace Go.Proofs.YtmalmkccgjeboaaDoor
open Go.RowKit
open Go.ChangeMaps Go.Maps

theorem info_page : (Tryd.prog.info? 70).map (fun i => (i.zero, i.size, i.bytes)) = some (some (.agg #[.bool false, .bool false]), 2, 2) := by kernel_rfl
theorem make_pages (n : Nat) (hn : n ≤ 1024) (W : World) : (Instr.makeSlice 55 (.int .i64 (n : Int)) (.int .i64 (n : Int))).run Tryd.prog W = .ok (.slice (some ⟨W.heap.size, 0, none⟩) n n) (W.alloc (.cells (madeCells #[.bool false, .bool false] (n * 2)) 70)) := by
  obtain ⟨i, hi, hz, hs, hb⟩ := info_parts info_page
  have h := run_make (P := Tryd.prog) W 55 70 i _ Tryd.underlying55 hi hz .i64 .i64 n n (by omega) (by omega) (by rw [hb]; omega) (by omega)
  rw [hs] at h
  exact h
theorem made_page {n k : Nat} (hk : k < n) : (madeCells #[Value.bool false, Value.bool false] n)[k]? = some (.bool false) := by
  unfold madeCells
  rw [Array.getElem?_map, Array.getElem?_eq_getElem (by simpa using hk)]
  have h2 : k % 2 = 0 ∨ k % 2 = 1 := by omega
  rcases h2 with h2 | h2 <;> simp [h2]

theorem cntTo_zero (v : Int) (hv : v ≠ 0) (k : Nat) : cntTo (fun _ => 0) v k = 0 := by
  induction k with
  | zero => rfl
  | succ k ih => unfold cntTo; rw [ih, if_neg (fun e => hv e.symm)]
theorem fresh_good {k : Nat} (h1 : 1 ≤ (k : Int)) (h2 : (k : Int) ≤ 1024) : (SpM.fresh k).good :=
  ⟨by show 1 ≤ k; omega, by show k ≤ 1024; omega, fun _ => .inl rfl, fun _ _ => rfl, fun _ => by show I64 0; unfold I64; omega, by show ((cntTo (fun _ => 0) 2 k : Nat) : Int) ≤ 0; rw [cntTo_zero 2 (by decide)]; exact Int.le_refl _, by show (0 : Int) ≤ 1024; omega⟩
theorem fresh_at {w : World} {k : Nat} (h3 : 3 ≤ w.heap.size) (h1 : 1 ≤ (k : Int)) (h2 : (k : Int) ≤ 1024) :
    SpaceAt (((w.alloc (.cells (madeCells #[.bool false, .bool false] (k * 2)) 70)).alloc (.map #[] 0)).alloc (.cells #[.slice (some ⟨w.heap.size, 0, none⟩) k k, .map (some (w.heap.size + 1)), .int .i64 0] 58))
      (w.heap.size + 1 + 1) [w.heap.size + 1 + 1, w.heap.size, w.heap.size + 1] (SpM.fresh k) := by
  have b1 := Blk.new w 70 (madeCells #[.bool false, .bool false] (k * 2))
  have hd := Dict.made (w.alloc (.cells (madeCells #[.bool false, .bool false] (k * 2)) 70))
  have b3 := Blk.new ((w.alloc (.cells (madeCells #[.bool false, .bool false] (k * 2)) 70)).alloc (.map #[] 0)) 58 #[.slice (some ⟨w.heap.size, 0, none⟩) k k, .map (some (w.heap.size + 1)), .int .i64 0]
  simp only [World.size_alloc] at hd b3
  have hd2 := hd.only ((Only.refl [] _).alloc (.cells #[.slice (some ⟨w.heap.size, 0, none⟩) k k, .map (some (w.heap.size + 1)), .int .i64 0] 58)) (by simp)
  have hr : Row _ w.heap.size (2 * k) (pcell (fun _ => 0)) := ⟨_, _, (b1.alloc (.map #[] 0)).alloc (.cells #[.slice (some ⟨w.heap.size, 0, none⟩) k k, .map (some (w.heap.size + 1)), .int .i64 0] 58), by rw [size_madeCells]; omega, fun j hj => by
    rw [made_page (by omega)]
    unfold pcell
    split <;> rfl⟩
  refine ⟨fresh_good h1 h2, fun b hb => ?_, fun b hb => ?_, w.heap.size, k, w.heap.size + 1, fun _ => none, .head _, .tail _ (.head _), .tail _ (.tail _ (.head _)), by omega, by omega, by omega, b3, Nat.le_refl _, hr, ?_, fun i g h => (by cases h), fun i _ _ h => ?_, fun i j g h => (by cases h)⟩
  · simp at hb; omega
  · simp at hb; simp; omega
  · have e : (SpM.fresh k).dirty = 0 := cntTo_zero 2 (by decide) k
    rw [e]
    exact hd2
  · exact absurd (show (0 : Int) = 2 from h) (by decide)

set_option maxHeartbeats 1600000 in
theorem New_any {w : World} (hE : Env w) (n : Int) :
    Calls Tryd.prog 36 #[.int .i64 n] w fun e w' => Only [] w w' ∧
      (1 ≤ n ∧ n ≤ 1024 → ∃ p l, e = .returned (.tuple #[.pointer (some ⟨p, 0, none⟩), .int .i64 0]) ∧ SpaceAt w' p l (SpM.fresh n.toNat) ∧ ∀ b ∈ l, w.heap.size ≤ b) ∧
      (¬ (1 ≤ n ∧ n ≤ 1024) → e = .returned (.tuple #[.pointer none, .int .i64 1])) := by
  have h3 : 3 ≤ w.heap.size := by have : (2 : Nat) < w.heap.size := World.block_lt_of_cell? w _ hE.d0; omega
  by_cases hin : 1 ≤ n ∧ n ≤ 1024
  · obtain ⟨k, rfl⟩ : ∃ k : Nat, n = k := ⟨n.toNat, by omega⟩
    have d1 : decide ((k : Int) < 1) = false := decide_eq_false (by omega)
    have d2 : decide (1024 < (k : Int)) = false := decide_eq_false (by omega)
    have hmk := make_pages k (by omega)
    have hmm := @run_makeMap Tryd.prog
    go_enter Tryd.func36, Tryd.ntmps36
    go_wp2_with fail
    go_ret2
    have hsp := fresh_at (k := k) h3 hin.1 hin.2
    refine ⟨(((Only.refl [] w).alloc _).alloc _).alloc _, fun _ => ⟨w.heap.size + 1 + 1, [w.heap.size + 1 + 1, w.heap.size, w.heap.size + 1], rfl, ?_, fun b hb => ?_⟩, fun h => absurd hin h⟩
    · rw [Int.toNat_natCast]; exact hsp
    · simp at hb; omega
  · have HIN := Lib.hid hin
    by_cases h1 : n < 1
    · have d1 := decide_eq_true h1
      clear hin
      go_enter Tryd.func36, Tryd.ntmps36
      go_wp2_with fail
      go_ret2
      exact ⟨Only.refl _ _, fun h => absurd h (by have := HIN.out; omega), fun _ => rfl⟩
    · have d1 := decide_eq_false h1
      have d2 : decide (1024 < n) = true := decide_eq_true (by omega)
      clear hin
      go_enter Tryd.func36, Tryd.ntmps36
      go_wp2_with fail
      go_ret2
      exact ⟨Only.refl _ _, fun h => absurd h (by have := HIN.out; omega), fun _ => rfl⟩

theorem state_bb (w : World) (hE : Env w) (x y : Bool) (hxy : y = true → x = true) : Grew Tryd.prog 43 #[.agg #[.bool x, .bool y]] w (.int .i64 (if x then if y then 2 else 1 else 0)) := by
  have hE1 := hE.only ((Only.refl [] w).alloc (.cells #[.bool x, .bool y] 70)) (by simp)
  have b := Blk.new w 70 #[.bool x, .bool y]
  have b0 := b.cell_ 0 rfl
  have b1 := b.cell_ 1 rfl
  obtain ⟨u0, u1, c0, c1, _, _⟩ := hE1
  have ho := (Only.refl [] w).alloc (.cells #[.bool x, .bool y] 70)
  clear b
  cases x <;> cases y
  case false.true => exact absurd (hxy rfl) (by simp)
  all_goals
    clear hxy
    go_enter Tryd.func43, Tryd.ntmps43
    go_wp2_with fail
    go_ret
    exact ⟨rfl, ho⟩
theorem state_any (w : World) (hE : Env w) (v : Int) (hv : v = 0 ∨ v = 1 ∨ v = 2) : Grew Tryd.prog 43 #[.agg #[.bool (v != 0), .bool (v == 2)]] w (.int .i64 v) := by
  have h := state_bb w hE (v != 0) (v == 2) (by rcases hv with rfl | rfl | rfl <;> simp)
  rcases hv with rfl | rfl | rfl <;> exact h

/-- The state of a page; -1: there is no such page. -/
def SpM.stateOf (m : SpM) (i : Int) : Int := if i < 0 ∨ m.n ≤ i then -1 else m.st i
set_option maxHeartbeats 1600000 in
theorem State_any {w : World} (hE : Env w) {p : Nat} {l : List Nat} {m : SpM} (h : SpaceAt w p l m) (i : Int) (hi : I64 i) : Grew Tryd.prog 24 #[.pointer (some ⟨p, 0, none⟩), .int .i64 i] w (.int .i64 (m.stateOf i)) := by
  have CM := Lib.hid (made_any h)
  obtain ⟨hg, h3, h4, gp, cap, gm, G, hp⟩ := h
  have z0 := hp.blk.cell_ 0 rfl
  have hn2 := hg.n2
  have hcap := hp.cap_
  by_cases h1 : i < 0
  · have E := Lib.hid (show m.stateOf i = -1 from if_pos (.inl h1))
    have d1 := decide_eq_true h1
    clear hp hg hE
    generalize m.n = n at *
    go_enter Tryd.func24, Tryd.ntmps24
    go_wp2_with (first | (go_at_call 40; refine Still.use CM.out ?_))
    go_ret
    exact ⟨by rw [E.out]; rfl, Only.refl _ _⟩
  · have d1 := decide_eq_false h1
    by_cases h2 : (m.n : Int) ≤ i
    · have E := Lib.hid (show m.stateOf i = -1 from if_pos (.inr h2))
      have d2 := decide_eq_true h2
      clear hp hg hE
      generalize m.n = n at *
      go_enter Tryd.func24, Tryd.ntmps24
      go_wp2_with (first | (go_at_call 40; refine Still.use CM.out ?_))
      go_ret
      exact ⟨by rw [E.out]; rfl, Only.refl _ _⟩
    · have E := Lib.hid (show m.stateOf i = m.st i from if_neg (by omega))
      have d2 := decide_eq_false h2
      obtain ⟨k, rfl⟩ : ∃ k : Nat, i = k := ⟨i.toNat, by omega⟩
      have x0 := hp.row.cell (k := k * 2) (by omega)
      have x1 := hp.row.cell (k := k * 2 + 1) (by omega)
      unfold pcell at x0 x1
      rw [if_pos (by omega), show k * 2 / 2 = k by omega] at x0
      rw [if_neg (by omega), show (k * 2 + 1) / 2 = k by omega] at x1
      have C := Lib.hid (state_any w hE (m.st k) (hg.s1 k))
      clear hp hg hE
      generalize m.st k = v at *
      generalize (v != 0) = x at *
      generalize (v == 2) = y at *
      generalize m.n = n at *
      go_enter Tryd.func24, Tryd.ntmps24
      go_wp2_with (first | (go_at_call 40; refine Still.use CM.out ?_) | (go_at_call 43; refine Grew.use C.out (fun w1 ho1 => ?_)))
      go_ret
      exact ⟨by rw [E.out]; rfl, ho1⟩

theorem Pages_any {w : World} {p : Nat} {l : List Nat} {m : SpM} (h : SpaceAt w p l m) : Still Tryd.prog 21 #[.pointer (some ⟨p, 0, none⟩)] w (.int .i64 m.n) := by
  have CM := Lib.hid (made_any h)
  obtain ⟨hg, h3, h4, gp, cap, gm, G, hp⟩ := h
  have z0 := hp.blk.cell_ 0 rfl
  clear hp hg
  generalize m.n = n at *
  go_enter Tryd.func21, Tryd.ntmps21
  go_wp2_with (first | (go_at_call 40; refine Still.use CM.out ?_))
  go_ret
  exact ⟨rfl, rfl⟩
theorem Peak_any {w : World} {p : Nat} {l : List Nat} {m : SpM} (h : SpaceAt w p l m) : Still Tryd.prog 18 #[.pointer (some ⟨p, 0, none⟩)] w (.int .i64 m.pk) := by
  have CM := Lib.hid (made_any h)
  obtain ⟨hg, h3, h4, gp, cap, gm, G, hp⟩ := h
  have z2 := hp.blk.cell_ 2 rfl
  clear hp hg
  generalize m.pk = n at *
  go_enter Tryd.func18, Tryd.ntmps18
  go_wp2_with (first | (go_at_call 40; refine Still.use CM.out ?_))
  go_ret
  exact ⟨rfl, rfl⟩
theorem Dirty_any {w : World} {p : Nat} {l : List Nat} {m : SpM} (h : SpaceAt w p l m) : Still Tryd.prog 19 #[.pointer (some ⟨p, 0, none⟩)] w (.int .i64 m.dirty) := by
  have CM := Lib.hid (made_any h)
  obtain ⟨hg, h3, h4, gp, cap, gm, G, hp⟩ := h
  have z1 := hp.blk.cell_ 1 rfl
  have hlen := hp.dict.len 3
  clear hp hg
  generalize m.dirty = n at *
  go_enter Tryd.func19, Tryd.ntmps19
  go_wp2_with (first | (go_at_call 40; refine Still.use CM.out ?_))
  go_ret
  exact ⟨rfl, rfl⟩
/-- The mapped pages. -/
def mapTo (st : Int → Int) : Nat → Nat
  | 0 => 0
  | k + 1 => mapTo st k + if st k = 0 then 0 else 1
theorem mapTo_le (st : Int → Int) (k : Nat) : mapTo st k ≤ k := by
  induction k with
  | zero => exact Nat.le_refl _
  | succ k ih => unfold mapTo; split <;> omega
set_option maxHeartbeats 1600000 in
theorem Mapped_any {w : World} {p : Nat} {l : List Nat} {m : SpM} (h : SpaceAt w p l m) : Still Tryd.prog 20 #[.pointer (some ⟨p, 0, none⟩)] w (.int .i64 (mapTo m.st m.n)) := by
  have CP := Lib.hid (Pages_any h)
  obtain ⟨hg, h3, h4, gp, cap, gm, G, hp⟩ := h
  have z0 := hp.blk.cell_ 0 rfl
  have HR := Lib.hid hp.row
  have hn2 := hg.n2
  have hcap := hp.cap_
  clear hp hg
  generalize m.n = n at *
  go_enter Tryd.func20, Tryd.ntmps20
  go_wp2_with (first | (go_at_call 21; refine Still.use CP.out ?_))
  go_loop [3, 7] (fun c t => ∃ k : Nat, k ≤ n ∧ t = .int .i64 k ∧ c = .int .i64 (mapTo m.st k)) (fun _ t => n - (intOf t).toNat)
  case atStart => exact ⟨0, Nat.zero_le _, rfl, rfl⟩
  case round =>
    obtain ⟨k, hk, rfl, rfl⟩ := hrel
    by_cases hlt : k < n
    · have d1 : decide ((k : Int) < n) = true := decide_eq_true (by omega)
      have x0 := HR.out.cell (k := k * 2) (by omega)
      unfold pcell at x0
      rw [if_pos (by omega), show k * 2 / 2 = k by omega] at x0
      have hle := mapTo_le m.st k
      have HM : Hid (mapTo m.st (k + 1) = mapTo m.st k + if m.st k = 0 then 0 else 1) := rfl
      by_cases e : m.st k = 0
      · rw [show (m.st k != 0) = false by rw [e]; rfl] at x0
        have HM2 := Lib.hid (HM.out.trans (by rw [if_pos e]))
        clear HM e
        generalize mapTo m.st k = c at *
        go_wp2_with fail
        go_round
        case rel => exact ⟨k + 1, by omega, by go_num, by rw [HM2.out]; rfl⟩
        case measure => simp [intOf]; omega
      · rw [show (m.st k != 0) = true from bne_iff_ne.2 e] at x0
        have HM2 := Lib.hid (HM.out.trans (by rw [if_neg e]))
        clear HM e
        generalize mapTo m.st k = c at *
        go_wp2_with fail
        go_round
        case rel => exact ⟨k + 1, by omega, by go_num, by rw [HM2.out]; go_num⟩
        case measure => simp [intOf]; omega
    · have e : k = n := by omega
      subst e
      have d1 : decide ((k : Int) < k) = false := decide_eq_false (by omega)
      go_wp2_with fail
      go_ret
      exact ⟨rfl, rfl⟩
end Go.Proofs.YtmalmkccgjeboaaDoor
