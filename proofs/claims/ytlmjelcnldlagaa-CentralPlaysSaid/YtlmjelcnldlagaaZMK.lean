/- The reference's list: where it lies; made, Taken, Room, Spans, Class, New. -/
import Derived.Test.YtlmjelcnldlagaaZMJ
import Derived.Test.YtlmjelcnldlagaaZSrD
set_option linter.unusedVariables false
set_option linter.unusedSimpArgs false
namespace Go.Proofs.Ytlmjelcnldlagaa
open Go.RowKit

def ptrs (L : List En) : List Value := L.map fun e => .pointer (some ⟨e.p, 0, none⟩)
theorem ptrs_len (L : List En) : (ptrs L).length = L.length := List.length_map ..
theorem ptrs_at (L : List En) (j : Nat) (h : j < L.length) : (ptrs L)[j]? = some (.pointer (some ⟨(eAt L j).p, 0, none⟩)) := by
  simp [ptrs, eAt, List.getD_eq_getElem?_getD, List.getElem?_eq_getElem h]

structure QAt (w : World) (P : Nat) (A : Value) (c : Cl) (L : List En) : Prop where
  blk : Blk w P 97 #[.int .i64 c.size, .int .i64 c.pages, .int .i64 c.batch, A]
  one : c.ok
  row : w.ownsRow 0 99 1 A L.length (ptrs L)
  sp : ∀ e ∈ L, RefAt w e.p e.q e.cap e.s ∧ e.s.of c
  ne : ∀ e ∈ L, e.p ≠ P ∧ e.q ≠ P ∧ A.ownBlock ≠ some e.p ∧ A.ownBlock ≠ some e.q
  nA : A.ownBlock ≠ some P
  ap : L.Pairwise Apart
structure QSt (w : World) (P : Nat) (bl : List Nat) (c : Cl) (M : List Sp) : Prop where
  ex : ∃ A L, QAt w P A c L ∧ spans L = M ∧ InBl P A L bl
  lt : ∀ b ∈ bl, b < w.heap.size

theorem QAt.only {w w' : World} {P : Nat} {A : Value} {c : Cl} {L : List En} {bl l : List Nat} (h : QAt w P A c L) (hb : InBl P A L bl) (ho : Only l w w') (hl : ∀ b ∈ bl, b ∉ l) : QAt w' P A c L := by
  refine ⟨h.blk.only ho (hl _ hb.p), h.one, own_only h.row ho (fun k hk => hl _ (hb.a k hk)), fun e he => ?_, h.ne, h.nA, h.ap⟩
  obtain ⟨h1, h2⟩ := h.sp e he
  exact ⟨h1.only ho (hl _ (hb.e e he).1) (hl _ (hb.e e he).2), h2⟩
theorem QAt.still {w w' : World} {P : Nat} {A : Value} {c : Cl} {L : List En} (h : QAt w P A c L) (ho : Only [] w w') : QAt w' P A c L := by
  refine ⟨h.blk.only ho (by simp), h.one, own_only h.row ho (by simp), fun e he => ?_, h.ne, h.nA, h.ap⟩
  obtain ⟨h1, h2⟩ := h.sp e he
  exact ⟨h1.only ho (by simp) (by simp), h2⟩
theorem QSt.only {w w' : World} {P : Nat} {bl l : List Nat} {c : Cl} {M : List Sp} (h : QSt w P bl c M) (ho : Only l w w') (hl : ∀ b ∈ bl, b ∉ l) : QSt w' P bl c M := by
  obtain ⟨⟨A, L, h1, h2, h3⟩, h4⟩ := h
  exact ⟨⟨A, L, h1.only h3 ho hl, h2, h3⟩, fun b hb => Nat.lt_of_lt_of_le (h4 b hb) ho.size⟩
theorem QSt.still {w w' : World} {P : Nat} {bl : List Nat} {c : Cl} {M : List Sp} (h : QSt w P bl c M) (ho : Only [] w w') : QSt w' P bl c M := h.only ho (by simp)

/-- A step that turns the list to M. -/
def QTurn (w : World) (P : Nat) (bl : List Nat) (w' : World) (c : Cl) (M : List Sp) : Prop := Only bl w w' ∧ ∃ bl', QSt w' P bl' c M ∧ ∀ b ∈ bl', b ∈ bl ∨ w.heap.size ≤ b
theorem QTurn.same {w w' : World} {P : Nat} {bl : List Nat} {c : Cl} {M : List Sp} (h : QSt w P bl c M) (ho : Only [] w w') : QTurn w P bl w' c M := ⟨ho.of_nil, bl, h.still ho, fun b hb => .inl hb⟩
theorem QTurn.step {w w1 w2 : World} {P : Nat} {bl bl1 : List Nat} {c : Cl} {M : List Sp} (ho : Only bl w w1) (hl : ∀ b ∈ bl1, b ∈ bl ∨ w.heap.size ≤ b) (h : QTurn w1 P bl1 w2 c M) : QTurn w P bl w2 c M := by
  obtain ⟨h1, l2, h2, h3⟩ := h
  refine ⟨ho.then_ h1 hl, l2, h2, fun b hb => ?_⟩
  rcases h3 b hb with h4 | h4
  · exact hl b h4
  · exact .inr (Nat.le_trans ho.size h4)
theorem QTurn.first {w w1 w2 : World} {P : Nat} {bl : List Nat} {c : Cl} {M : List Sp} (ho : Only [] w w1) (h : QTurn w1 P bl w2 c M) : QTurn w P bl w2 c M := QTurn.step ho.of_nil (fun b hb => .inl hb) h

namespace QAt
variable {w w' : World} {P : Nat} {A : Value} {c : Cl} {L : List En}
theorem slice (h : QAt w P A c L) : ∃ ad cp, A = .slice ad L.length cp := by
  obtain ⟨ad, cp, h1, _⟩ := own_slice h.row
  exact ⟨ad, cp, h1⟩
theorem form (h : QAt w P A c L) (h0 : 0 < L.length) : ∃ g cp, A = .slice (some ⟨g, 0, none⟩) L.length cp := by
  obtain ⟨g, cp, h1, _⟩ := own_form h.row h0
  exact ⟨g, cp, h1⟩
theorem get (h : QAt w P A c L) {j : Nat} (hj : j < L.length) : RefAt w (eAt L j).p (eAt L j).q (eAt L j).cap (eAt L j).s ∧ (eAt L j).s.of c := h.sp _ (eAt_mem hj)
theorem apart (h : QAt w P A c L) {i j : Nat} (hi : i < j) (hj : j < L.length) : Apart (eAt L i) (eAt L j) := pw_eAt.1 h.ap i j hi hj
theorem start_ge (h : QAt w P A c L) (j : Nat) : j < L.length → (j : Int) ≤ (eAt L j).s.start := by
  induction j with
  | zero => intro hj; exact (h.get hj).1.good.b1
  | succ j ih =>
    intro hj
    have h1 := ih (by omega)
    have h2 := h.apart (show j < j + 1 by omega) hj
    have h3 := (h.get (show j < L.length by omega)).1.good.p1
    have h4 := h2.ord
    omega
theorem len (h : QAt w P A c L) : L.length ≤ 1024 := by
  rcases Nat.eq_zero_or_pos L.length with h0 | h0
  · omega
  · have h1 := h.start_ge (L.length - 1) (by omega)
    have h2 := (h.get (show L.length - 1 < L.length by omega)).1.good.b2
    have h3 := (h.get (show L.length - 1 < L.length by omega)).1.good.p1
    omega
theorem goodL (h : QAt w P A c L) : GoodL c (spans L) :=
  ⟨h.one, fun j hj => by rw [spans_len] at hj; rw [sAt_spans]; exact ⟨(h.get hj).1.good, (h.get hj).2⟩, fun i j hij hj => by rw [spans_len] at hj; rw [sAt_spans, sAt_spans]; exact (h.apart hij hj).ord, by rw [spans_len]; exact h.len⟩
end QAt
theorem QSt.goodL {w : World} {P : Nat} {bl : List Nat} {c : Cl} {M : List Sp} (h : QSt w P bl c M) : GoodL c M := by
  obtain ⟨⟨A, L, h1, rfl, h3⟩, h4⟩ := h
  exact h1.goodL
theorem own_ptrs {w : World} {base n g cp : Nat} {e : TypeId} {L : List En} (h : w.ownsRow base e 1 (.slice (some ⟨g, 0, none⟩) n cp) n (ptrs L)) (hn : n = L.length) {j : Nat} (hj : j < n) : w.cell? ⟨g, j, none⟩ = some (.pointer (some ⟨(eAt L j).p, 0, none⟩)) := by
  rw [h.cellAt j (by omega)]
  exact ptrs_at L j (by omega)

theorem qmade_at {w : World} {P : Nat} {A : Value} {c : Cl} {L : List En} (h : QAt w P A c L) : Still Try.prog 56 #[.pointer (some ⟨P, 0, none⟩)] w (.bool true) := by
  have z0 := h.blk.cell_ 0 rfl
  have d1 : decide (0 < c.size) = true := decide_eq_true (by have := h.one.s1; omega)
  clear h
  go_enter Try.func56, Try.ntmps56
  go_wp2_with fail
  go_ret
  exact ⟨rfl, rfl⟩

set_option maxHeartbeats 2000000 in
theorem qTaken_at {w : World} {P : Nat} {A : Value} {c : Cl} {L : List En} (h : QAt w P A c L) : Grew Try.prog 65 #[.pointer (some ⟨P, 0, none⟩)] w (.int .i64 (manyOf (spans L))) := by
  have CM := Lib.hid (qmade_at h)
  obtain ⟨ad, cp, rfl⟩ := h.slice
  have HA := Lib.hid h
  have hn := h.len
  obtain ⟨N, hN⟩ : ∃ N, N = L.length := ⟨_, rfl⟩
  have HG : Hid (manyOf (spans L) = manyTo (spans L) N) := by rw [hN, ← spans_len]; rfl
  rw [← hN] at hn
  have HN := Lib.hid hN
  clear h hN
  go_enter Try.func65, Try.ntmps65
  go_wp2_with (first | (go_at_call 56; with_reducible refine Still.use CM.out ?_))
  go_loopw [3, 4] (fun u t wr => ∃ k : Nat, ∃ x : Int, k ≤ N ∧ u = .int .i64 x ∧ t = .int .i64 k ∧ Only [] w wr ∧ x = manyTo (spans L) k ∧ 0 ≤ x ∧ x ≤ 128 * k) (fun _ t _ => N - (intOf t).toNat)
  case atStart => exact ⟨0, 0, Nat.zero_le _, rfl, rfl, Only.refl _ _, rfl, by omega, by omega⟩
  case round =>
    obtain ⟨k, x, hk, rfl, rfl, ho, hx, h1, h2⟩ := hrel
    have hr := HA.out.still ho
    have z3 := hr.blk.cell_ 3 rfl
    rw [← HN.out] at z3
    have HX := Lib.hid hx
    clear hx
    by_cases hlt : k < N
    · have d1 : decide ((k : Int) < N) = true := decide_eq_true (by omega)
      have hkL : k < L.length := by rw [← HN.out]; exact hlt
      obtain ⟨g, cp', e1⟩ := hr.form (by omega)
      injection e1 with e1 _ e3
      subst e1 e3
      have q0 := own_ptrs hr.row rfl hkL
      obtain ⟨m1, m2⟩ := (hr.get hkL).1.good.many
      have m3 := (hr.get hkL).1.good.len
      have HM : Hid (manyTo (spans L) (k + 1) = manyTo (spans L) k + (eAt L k).s.many) := by show _ = _; rw [manyTo, sAt_spans]
      have CT := Lib.hid (rTaken_at (hr.get hkL).1)
      clear hr hkL
      generalize (eAt L k).s.st.length = ln at *
      generalize (eAt L k).s.many = mn at *
      generalize (eAt L k).p = pp at *
      go_wp2_with (first | (go_at_call 84; with_reducible refine Grew.use CT.out (fun w2 ho2 => ?_)))
      go_roundw
      case rel => exact ⟨k + 1, x + mn, by omega, rfl, by go_num, ho.trans ho2, by rw [HM.out, HX.out], by omega, by omega⟩
      case measure => simp [intOf]; omega
    · have e : k = N := by omega
      subst e
      have d1 : decide ((k : Int) < k) = false := decide_eq_false (by omega)
      clear hr
      go_wp2_with fail
      go_ret
      exact ⟨by rw [HG.out, HX.out]; rfl, ho⟩

set_option maxHeartbeats 4000000 in
theorem qRoom_at {w : World} {P : Nat} {A : Value} {c : Cl} {L : List En} (h : QAt w P A c L) : Grew Try.prog 64 #[.pointer (some ⟨P, 0, none⟩)] w (.int .i64 (roomOf (spans L))) := by
  have CM := Lib.hid (qmade_at h)
  obtain ⟨ad, cp, rfl⟩ := h.slice
  have HA := Lib.hid h
  have hn := h.len
  obtain ⟨N, hN⟩ : ∃ N, N = L.length := ⟨_, rfl⟩
  have HG : Hid (roomOf (spans L) = roomTo (spans L) N) := by rw [hN, ← spans_len]; rfl
  rw [← hN] at hn
  have HN := Lib.hid hN
  clear h hN
  go_enter Try.func64, Try.ntmps64
  go_wp2_with (first | (go_at_call 56; with_reducible refine Still.use CM.out ?_))
  go_loopw [3, 4] (fun u t wr => ∃ k : Nat, ∃ x : Int, k ≤ N ∧ u = .int .i64 x ∧ t = .int .i64 k ∧ Only [] w wr ∧ x = roomTo (spans L) k ∧ 0 ≤ x ∧ x ≤ 128 * k) (fun _ t _ => N - (intOf t).toNat)
  case atStart => exact ⟨0, 0, Nat.zero_le _, rfl, rfl, Only.refl _ _, rfl, by omega, by omega⟩
  case round =>
    obtain ⟨k, x, hk, rfl, rfl, ho, hx, h1, h2⟩ := hrel
    have hr := HA.out.still ho
    have z3 := hr.blk.cell_ 3 rfl
    rw [← HN.out] at z3
    have HX := Lib.hid hx
    clear hx
    by_cases hlt : k < N
    · have d1 : decide ((k : Int) < N) = true := decide_eq_true (by omega)
      have hkL : k < L.length := by rw [← HN.out]; exact hlt
      obtain ⟨g, cp', e1⟩ := hr.form (by omega)
      injection e1 with e1 _ e3
      subst e1 e3
      have q0 := own_ptrs hr.row rfl hkL
      obtain ⟨m1, m2⟩ := (hr.get hkL).1.good.many
      have m3 := (hr.get hkL).1.good.len
      have HM : Hid (roomTo (spans L) (k + 1) = roomTo (spans L) k + ((eAt L k).s.st.length - (eAt L k).s.many)) := by show _ = _; rw [roomTo, sAt_spans]
      have CT := Lib.hid (fun u : After wr => rTaken_at ((hr.get hkL).1.only u.ok (by simp) (by simp)))
      have CO := Lib.hid (fun u : After wr => rObjects_at ((hr.get hkL).1.only u.ok (by simp) (by simp)))
      clear hr hkL
      generalize (eAt L k).s.st.length = ln at *
      generalize (eAt L k).s.many = mn at *
      generalize (eAt L k).p = pp at *
      have Z3 := cell_after z3
      have Q0 := cell_after q0
      go_wp2_with fail
      refine wp_region_grew (by kernel_rfl) (by kernel_rfl) ?_
      repeat (go_big_quiet_step (first | (go_at_call 85; exact Grew.g (Still.grew (CO.out _))) | (go_at_call 84; exact Grew.g (CT.out _))))
      refine wpQuiet_nil ?_
      rintro _ ⟨u, rfl⟩
      go_wp2_with fail
      go_roundw
      case rel => exact ⟨k + 1, x + (ln - mn), by omega, by go_num, by go_num, ho.trans u.ok, by rw [HM.out, HX.out], by omega, by omega⟩
      case measure => simp [intOf]; omega
    · have e : k = N := by omega
      subst e
      have d1 : decide ((k : Int) < k) = false := decide_eq_false (by omega)
      clear hr
      go_wp2_with fail
      go_ret
      exact ⟨by rw [HG.out, HX.out]; rfl, ho⟩

set_option maxHeartbeats 2000000 in
theorem qSpans_at {w : World} {P : Nat} {A : Value} {c : Cl} {L : List En} (h : QAt w P A c L) : Calls Try.prog 67 #[.pointer (some ⟨P, 0, none⟩)] w fun e w' =>
    ∃ v, e = .returned v ∧ Only [] w w' ∧ w'.ownsRow w.heap.size 37 2 v L.length (cellsR (spansOf (spans L))) := by
  have CM := Lib.hid (qmade_at h)
  obtain ⟨ad, cp, rfl⟩ := h.slice
  have HA := Lib.hid h
  have hn := h.len
  obtain ⟨N, hN⟩ : ∃ N, N = L.length := ⟨_, rfl⟩
  have HG : Hid (spansOf (spans L) = spansTo (spans L) N) := by rw [hN, ← spans_len]; rfl
  rw [← hN] at hn ⊢
  have HN := Lib.hid hN
  obtain ⟨i0, hi, hz0, hz1, hz2⟩ := info_parts info_run
  clear h hN
  go_enter Try.func67, Try.ntmps67
  go_wp2_with (first | (go_at_call 56; with_reducible refine Still.use CM.out ?_))
  go_loopw [3, 4] (fun u t wr => ∃ k : Nat, k ≤ N ∧ t = .int .i64 k ∧ Only [] w wr ∧ wr.ownsRow w.heap.size 37 2 u k (cellsR (spansTo (spans L) k))) (fun _ t _ => N - (intOf t).toNat)
  case atStart => exact ⟨0, Nat.zero_le _, rfl, Only.refl _ _, World.ownsRow_nil _ _ _ _⟩
  case round =>
    obtain ⟨k, hk, rfl, ho, hown⟩ := hrel
    have hr := HA.out.still ho
    have z3 := hr.blk.cell_ 3 rfl
    rw [← HN.out] at z3
    by_cases hlt : k < N
    · have d1 : decide ((k : Int) < N) = true := decide_eq_true (by omega)
      have hkL : k < L.length := by rw [← HN.out]; exact hlt
      obtain ⟨g, cp', e1⟩ := hr.form (by omega)
      injection e1 with e1 _ e3
      subst e1 e3
      have q0 := own_ptrs hr.row rfl hkL
      have CR := Lib.hid (rRun_at (hr.get hkL).1)
      have HS : Hid (cellsR (spansTo (spans L) (k + 1)) = cellsR (spansTo (spans L) k) ++ [.int .i64 (eAt L k).s.start, .int .i64 (eAt L k).s.pages]) := by show _ = _; rw [spansTo, cellsR_append, sAt_spans]; rfl
      generalize (eAt L k).s.start = st at *
      generalize (eAt L k).s.pages = pg at *
      generalize (eAt L k).p = pp at *
      have hsz := ho.size
      clear hr hkL
      go_wp2_with (first
        | (go_at_call 89; with_reducible refine Grew.use CR.out (fun w1 ho1 => ?_); have hown2 := own_only hown ho1 (by simp); have ho2 := ho.trans ho1; have hsz2 := ho2.size; clear hown)
        | (at_builtin; refine wpList_append_own _ rfl _ _ 30 rfl w.heap.size 37 i0 (.agg #[.int .i64 0, .int .i64 0]) 2 16 Try.underlying30 hi hz0 hz1 hz2 rfl (by decide) _ _ _ rfl (hown2.alloc _) ⟨w1.heap.size, 0, none⟩ 1 1 [.int .i64 st, .int .i64 pg] rfl rfl (news_new w1 _ _) (by simp [Value.oneCell']) (by unfold maxLen; omega) (by omega) (by simp; omega) ?_; intro v1 w3 hown3 hg3 _))
      go_roundw
      case rel => exact ⟨k + 1, by omega, by go_num, (ho2.alloc _).grown hg3 (fun b hb => .inr (own_base hown2 b hb)), by rw [HS.out]; exact hown3⟩
      case measure => simp [intOf]; omega
    · have e : k = N := by omega
      subst e
      have d1 : decide ((k : Int) < k) = false := decide_eq_false (by omega)
      clear hr
      go_wp2_with fail
      go_ret
      exact ⟨_, rfl, ho, by rw [HG.out]; exact hown⟩

theorem qClass_at {w : World} {P : Nat} {A : Value} {c : Cl} {L : List En} (h : QAt w P A c L) : Grew Try.prog 66 #[.pointer (some ⟨P, 0, none⟩)] w (.agg #[.int .i64 c.size, .int .i64 c.pages, .int .i64 c.batch]) := by
  have z0 := h.blk.cell_ 0 rfl
  have z1 := h.blk.cell_ 1 rfl
  have z2 := h.blk.cell_ 2 rfl
  have hp := h.blk.lt
  have CM := Lib.hid (qmade_at (h.still ((Only.refl [] w).alloc (.cells #[.int .i64 0, .int .i64 0, .int .i64 0] 23))))
  clear h
  go_enter Try.func66, Try.ntmps66
  go_wp2_with (first | (go_at_call 56; with_reducible refine Still.use CM.out ?_))
  exact bodyPost_ret (v := .agg #[.int .i64 c.size, .int .i64 c.pages, .int .i64 c.batch]) (by simp [results, Try.results66, go_sem]) rfl ⟨rfl, (Only.refl [] w).alloc _⟩

theorem qNew_any (w : World) (c : Cl) : Calls Try.prog 32 #[.agg #[.int .i64 c.size, .int .i64 c.pages, .int .i64 c.batch]] w fun e w' => Only [] w w' ∧
    (c.ok → ∃ P bl, e = .returned (.tuple #[.pointer (some ⟨P, 0, none⟩), .int .i64 0]) ∧ QSt w' P bl c [] ∧ ∀ b ∈ bl, w.heap.size ≤ b) ∧
    (¬ c.ok → e = .returned (.tuple #[.pointer none, .int .i64 1])) := by
  obtain ⟨x, y, z⟩ := c
  dsimp only
  have C := Lib.hid (fun W => right_any W x y z)
  have ho0 := (Only.refl [] w).alloc (.cells #[.int .i64 x, .int .i64 y, .int .i64 z] 23)
  have bX := Blk.new w 23 #[.int .i64 x, .int .i64 y, .int .i64 z]
  have HB := Lib.hid (fun W (ho : Only [] (w.alloc (.cells #[.int .i64 x, .int .i64 y, .int .i64 z] 23)) W) => bX.only ho (by simp))
  by_cases hok : oneP x y z
  · have H := Lib.hid hok
    simp only [decide_eq_true hok] at C
    clear hok bX
    go_enter Try.func32, Try.ntmps32
    go_wp2_with (first | (go_at_call 54; with_reducible refine Grew.use (C.out _) (fun w1 ho1 => ?_); have b1 := HB.out _ ho1; have c0 := b1.cell_ 0 rfl; have c1 := b1.cell_ 1 rfl; have c2 := b1.cell_ 2 rfl; clear b1))
    go_ret2
    have h1 := Blk.new w1 97 #[.int .i64 x, .int .i64 y, .int .i64 z, .slice none 0 0]
    refine ⟨(ho0.trans ho1).alloc _, fun _ => ⟨w1.heap.size, [w1.heap.size], rfl, ⟨⟨.slice none 0 0, [], ⟨h1, H.out, World.ownsRow_nil _ _ _ _, by simp, by simp, by simp [Value.ownBlock], List.Pairwise.nil⟩, rfl, ⟨by simp, by simp [Value.ownBlock], by simp⟩⟩, fun b hb => ?_⟩, fun b hb => ?_⟩, fun h => absurd H.out h⟩
    · simp at hb; subst hb; exact h1.lt
    · simp at hb; subst hb; exact (ho0.trans ho1).size
  · have H := Lib.hid hok
    simp only [decide_eq_false hok] at C
    clear hok bX
    go_enter Try.func32, Try.ntmps32
    go_wp2_with (first | (go_at_call 54; with_reducible refine Grew.use (C.out _) (fun w1 ho1 => ?_)))
    go_ret2
    exact ⟨ho0.trans ho1, fun h => absurd h H.out, fun _ => rfl⟩
end Go.Proofs.Ytlmjelcnldlagaa
