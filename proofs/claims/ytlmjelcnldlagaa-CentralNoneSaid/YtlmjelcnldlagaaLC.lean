/- New, Spans, Class of the list. -/
import Derived.Test.YtlmjelcnldlagaaLB
set_option linter.unusedVariables false
set_option linter.unusedSimpArgs false
namespace Go.Proofs.Ytlmjelcnldlagaa
open Go.RowKit

theorem lNew_any (w : World) (c : Cl) : Calls Try.prog 31 #[.agg #[.int .i64 c.size, .int .i64 c.pages, .int .i64 c.batch]] w fun e w' => Only [] w w' ∧
    (c.ok → ∃ P bl, e = .returned (.tuple #[.pointer (some ⟨P, 0, none⟩), .int .i64 0]) ∧ ListSt w' P bl c [] ∧ ∀ b ∈ bl, w.heap.size ≤ b) ∧
    (¬ c.ok → e = .returned (.tuple #[.pointer none, .int .i64 1])) := by
  obtain ⟨x, y, z⟩ := c
  dsimp only
  have C := Lib.hid (fun W => Objects_any W x y z)
  have ho0 := (Only.refl [] w).alloc (.cells #[.int .i64 x, .int .i64 y, .int .i64 z] 23)
  have bX := Blk.new w 23 #[.int .i64 x, .int .i64 y, .int .i64 z]
  have HB := Lib.hid (fun W (ho : Only [] (w.alloc (.cells #[.int .i64 x, .int .i64 y, .int .i64 z] 23)) W) => bX.only ho (by simp))
  by_cases hok : oneP x y z
  · have H := Lib.hid hok
    simp only [if_pos hok] at C
    generalize y * 256 / x = ob at C
    clear hok bX
    go_enter Try.func31, Try.ntmps31
    go_wp2_with (first | (go_at_call 53; with_reducible refine Grew.use (C.out _) (fun w1 ho1 => ?_); have b1 := HB.out _ ho1; have c0 := b1.cell_ 0 rfl; have c1 := b1.cell_ 1 rfl; have c2 := b1.cell_ 2 rfl; clear b1))
    go_ret2
    have h1 := Blk.new w1 68 #[.int .i64 x, .int .i64 y, .int .i64 z, .slice none 0 0]
    refine ⟨(ho0.trans ho1).alloc _, fun _ => ⟨w1.heap.size, [w1.heap.size], rfl, ⟨⟨.slice none 0 0, [], ⟨h1, H.out, World.ownsRow_nil _ _ _ _, by simp, by simp, by simp [Value.ownBlock], List.Pairwise.nil⟩, rfl, ⟨by simp, by simp [Value.ownBlock], by simp⟩⟩, fun b hb => ?_⟩, fun b hb => ?_⟩, fun h => absurd H.out h⟩
    · simp at hb; subst hb; exact h1.lt
    · simp at hb; subst hb; exact (ho0.trans ho1).size
  · have H := Lib.hid hok
    simp only [if_neg hok] at C
    clear hok bX
    go_enter Try.func31, Try.ntmps31
    go_wp2_with (first | (go_at_call 53; with_reducible refine Grew.use (C.out _) (fun w1 ho1 => ?_)))
    go_ret2
    exact ⟨ho0.trans ho1, fun h => absurd h H.out, fun _ => rfl⟩

/-- The runs of the first k spans. -/
def spansTo (M : List Sp) : Nat → List (Int × Int)
  | 0 => []
  | k + 1 => spansTo M k ++ [((sAt M k).start, (sAt M k).pages)]
theorem spansTo_len (M : List Sp) (k : Nat) : (spansTo M k).length = k := by
  induction k with
  | zero => rfl
  | succ k ih => rw [spansTo, List.length_append, ih]; rfl
theorem spansTo_at (M : List Sp) (k j : Nat) (h : j < k) : rAt (spansTo M k) j = ((sAt M j).start, (sAt M j).pages) := by
  induction k with
  | zero => omega
  | succ k ih =>
    rw [spansTo, rAt_snoc, spansTo_len]
    by_cases h1 : j = k
    · rw [if_pos h1, h1]
    · rw [if_neg h1]; exact ih (by omega)
abbrev spansOf (M : List Sp) : List (Int × Int) := spansTo M M.length

set_option maxHeartbeats 2000000 in
theorem lSpans_at {w : World} {P : Nat} {A : Value} {c : Cl} {L : List En} (h : ListAt w P A c L) : Calls Try.prog 16 #[.pointer (some ⟨P, 0, none⟩)] w fun e w' =>
    ∃ v, e = .returned v ∧ Only [] w w' ∧ w'.ownsRow w.heap.size 37 2 v L.length (cellsR (spansOf (spans L))) := by
  have CM := Lib.hid (lmade_at h)
  obtain ⟨ad, cp, rfl⟩ := h.slice
  have z3 := h.blk.cell_ 3 rfl
  have HA := Lib.hid h
  have hn := h.len
  obtain ⟨N, hN⟩ : ∃ N, N = L.length := ⟨_, rfl⟩
  have HG : Hid (spansOf (spans L) = spansTo (spans L) N) := by rw [hN, ← spans_len]; rfl
  rw [← hN] at z3 hn ⊢
  have HN := Lib.hid hN
  obtain ⟨i0, hi, hz0, hz1, hz2⟩ := info_parts info_run
  clear h hN
  go_enter Try.func16, Try.ntmps16
  go_wp2_with (first | (go_at_call 37; with_reducible refine Still.use CM.out ?_))
  go_loopw [3, 14] (fun u t wr => ∃ k : Nat, k ≤ N ∧ t = .int .i64 k ∧ Only [] w wr ∧ wr.ownsRow w.heap.size 37 2 u k (cellsR (spansTo (spans L) k))) (fun _ t _ => N - (intOf t).toNat)
  case atStart => exact ⟨0, Nat.zero_le _, rfl, Only.refl _ _, World.ownsRow_nil _ _ _ _⟩
  case round =>
    obtain ⟨k, hk, rfl, ho, hown⟩ := hrel
    have hr := HA.out.still ho
    by_cases hlt : k < N
    · have d1 : decide ((k : Int) < N) = true := decide_eq_true (by omega)
      obtain ⟨g, cp', e1⟩ := hr.form (by rw [← HN.out]; omega)
      injection e1 with e1 _ e3
      subst e1 e3
      obtain ⟨q0, q1, q2, qf⟩ := own_ents hr.row rfl (j := k) (by rw [← HN.out]; exact hlt)
      have hoA := ho.alloc (.cells #[.int .i64 (eAt L k).s.many, .int .i64 (eAt L k).s.start, .pointer (some ⟨(eAt L k).p, 0, none⟩)] 75)
      have hownA := hown.alloc (.cells #[.int .i64 (eAt L k).s.many, .int .i64 (eAt L k).s.start, .pointer (some ⟨(eAt L k).p, 0, none⟩)] 75)
      have CR := Lib.hid (Run_at ((hr.get (show k < L.length by rw [← HN.out]; exact hlt)).1.alloc (.cells #[.int .i64 (eAt L k).s.many, .int .i64 (eAt L k).s.start, .pointer (some ⟨(eAt L k).p, 0, none⟩)] 75)))
      have HS : Hid (cellsR (spansTo (spans L) (k + 1)) = cellsR (spansTo (spans L) k) ++ [.int .i64 (eAt L k).s.start, .int .i64 (eAt L k).s.pages]) := by show _ = _; rw [spansTo, cellsR_append, sAt_spans]; rfl
      generalize (eAt L k).s.many = mn at *
      generalize (eAt L k).s.start = st at *
      generalize (eAt L k).s.pages = pg at *
      have hsz := hoA.size
      clear hr hown
      go_wp2_with (first
        | (go_at_call 38; with_reducible refine Grew.use CR.out (fun w1 ho1 => ?_); have hown2 := own_only hownA ho1 (by simp); have ho2 := hoA.trans ho1; have hsz2 := ho2.size; clear hownA)
        | (at_builtin; refine wpList_append_own _ rfl _ _ 30 rfl w.heap.size 37 i0 (.agg #[.int .i64 0, .int .i64 0]) 2 16 Try.underlying30 hi hz0 hz1 hz2 rfl (by decide) _ _ _ rfl (hown2.alloc _) ⟨w1.heap.size, 0, none⟩ 1 1 [.int .i64 st, .int .i64 pg] rfl rfl (news_new w1 _ _) (by simp [Value.oneCell']) (by unfold maxLen; omega) (by omega) (by simp; omega) ?_; intro v1 w3 hown3 hg3 _))
      go_roundw
      case rel => exact ⟨k + 1, by omega, by go_num, (ho2.alloc _).grown hg3 (fun b hb => .inr (own_base hown2 b hb)), by rw [HS.out]; exact hown3⟩
      case measure => simp [intOf]; omega
    · have e : k = N := by omega
      subst e
      have d1 : decide ((k : Int) < k) = false := decide_eq_false (by omega)
      clear hr
      go_wp2_with fail
      go_ret
      exact ⟨_, rfl, ho, by rw [HG.out]; exact hown⟩

theorem lClass_at {w : World} {P : Nat} {A : Value} {c : Cl} {L : List En} (h : ListAt w P A c L) : Grew Try.prog 45 #[.pointer (some ⟨P, 0, none⟩)] w (.agg #[.int .i64 c.size, .int .i64 c.pages, .int .i64 c.batch]) := by
  have z0 := h.blk.cell_ 0 rfl
  have z1 := h.blk.cell_ 1 rfl
  have z2 := h.blk.cell_ 2 rfl
  have hp := h.blk.lt
  have CM := Lib.hid (lmade_at (h.still ((Only.refl [] w).alloc (.cells #[.int .i64 0, .int .i64 0, .int .i64 0] 23))))
  clear h
  go_enter Try.func45, Try.ntmps45
  go_wp2_with (first | (go_at_call 37; with_reducible refine Still.use CM.out ?_))
  exact bodyPost_ret (v := .agg #[.int .i64 c.size, .int .i64 c.pages, .int .i64 c.batch]) (by simp [results, Try.results45, go_sem]) rfl ⟨rfl, (Only.refl [] w).alloc _⟩
end Go.Proofs.Ytlmjelcnldlagaa
