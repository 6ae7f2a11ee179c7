/- The reference's span: Right, Fits, New, Clone; lists of ints compared. -/
import Derived.Test.YtlmjelcnldlagaaZSrC
import Derived.Deep.AppendLies
set_option linter.unusedVariables false
set_option linter.unusedSimpArgs false
namespace Go.Proofs.Ytlmjelcnldlagaa
open Go.RowKit

set_option maxHeartbeats 800000 in
theorem right_any (w : World) (size pages batch : Int) : Grew Try.prog 54 #[.agg #[.int .i64 size, .int .i64 pages, .int .i64 batch]] w (.bool (decide (oneP size pages batch))) := by
  go_enter Try.func54, Try.ntmps54
  go_wp2
  all_goals
    go_ret
    refine ⟨?_, (Only.refl [] w).alloc _⟩
    show Ending.returned (Value.bool _) = _
    refine ret_bool ?_
    first
      | (symm; rw [decide_eq_false_iff_not]; unfold oneP; omega)
      | (rw [decide_eq_decide]; unfold oneP; omega)

set_option maxHeartbeats 800000 in
theorem fits_any (w : World) (start size pages batch : Int) : Grew Try.prog 95 #[.int .i64 start, .agg #[.int .i64 size, .int .i64 pages, .int .i64 batch]] w (.bool (decide (Sp.fits start size pages batch))) := by
  have C := right_any (w.alloc (.cells #[.int .i64 size, .int .i64 pages, .int .i64 batch] 23)) size pages batch
  have ho0 := (Only.refl [] w).alloc (.cells #[.int .i64 size, .int .i64 pages, .int .i64 batch] 23)
  have b := Blk.new w 23 #[.int .i64 size, .int .i64 pages, .int .i64 batch]
  by_cases hone : oneP size pages batch
  · rw [decide_eq_true hone] at C
    have hp1 := hone.2.2.2.1
    have hp2 := hone.2.2.2.2.1
    have HO := Lib.hid hone
    have CH := Lib.hid C
    clear C hone
    go_enter Try.func95, Try.ntmps95
    go_wp2_with (first | (go_at_call 54; refine Grew.use CH.out (fun w1 ho1 => ?_); have b1 := b.only ho1 (by simp); have b10 := b1.cell_ 0 rfl; have b11 := b1.cell_ 1 rfl; have b12 := b1.cell_ 2 rfl))
    all_goals
      go_ret
      refine ⟨?_, ho0.trans ho1⟩
      show Ending.returned (Value.bool _) = _
      refine ret_bool ?_
      have hone := HO.out
      first
        | (symm; rw [decide_eq_false_iff_not]; rintro ⟨_, h1, h2⟩; omega)
        | (rw [decide_eq_decide]; exact ⟨fun h => ⟨hone, by omega, by omega⟩, fun h => by have := h.2.1; have := h.2.2; omega⟩)
  · rw [decide_eq_false hone] at C
    rw [decide_eq_false (show ¬ Sp.fits start size pages batch from fun h => hone h.1)]
    have CH := Lib.hid C
    clear C hone
    go_enter Try.func95, Try.ntmps95
    go_wp2_with (first | (go_at_call 54; refine Grew.use CH.out (fun w1 ho1 => ?_)))
    go_ret
    exact ⟨rfl, ho0.trans ho1⟩

theorem info_bool : (Try.prog.info? 4).map (fun i => (i.zero, i.size, i.bytes)) = some (some (.bool false), 1, 1) := by kernel_rfl

theorem made_rowB (n : Nat) : ∀ i, i < n → (madeCells #[Value.bool false] n)[i]? = some (.bool ((List.replicate n (0 : Int)).getD i 0 == 1)) := by
  intro i hi
  have h := congrArg (fun l => l[i]?) (toList_madeCells_one (.bool false) n)
  simp only [Array.getElem?_toList] at h
  rw [h]
  simp [List.getElem?_replicate, hi, List.getD_eq_getElem?_getD]

set_option maxRecDepth 100000 in
set_option maxHeartbeats 2000000 in
theorem rNew_any (w : World) (start size pages batch : Int) :
    Calls Try.prog 83 #[.int .i64 start, .agg #[.int .i64 size, .int .i64 pages, .int .i64 batch]] w fun e w' =>
      (Sp.fits start size pages batch → ∃ p q cap, e = .returned (.tuple #[.pointer (some ⟨p, 0, none⟩), .int .i64 0]) ∧ RefAt w' p q cap (Sp.fresh start size pages batch) ∧ w.heap.size ≤ p ∧ w.heap.size ≤ q) ∧
      (¬ Sp.fits start size pages batch → e = .returned (.tuple #[.pointer none, .int .i64 1])) ∧ Only [] w w' := by
  have C := fits_any (w.alloc (.cells #[.int .i64 size, .int .i64 pages, .int .i64 batch] 23)) start size pages batch
  have ho0 := (Only.refl [] w).alloc (.cells #[.int .i64 size, .int .i64 pages, .int .i64 batch] 23)
  have b := Blk.new w 23 #[.int .i64 size, .int .i64 pages, .int .i64 batch]
  have b0 := b.cell_ 0 rfl
  have b1 := b.cell_ 1 rfl
  have b2 := b.cell_ 2 rfl
  by_cases hf : Sp.fits start size pages batch
  · rw [decide_eq_true hf] at C
    have hone := hf.1
    have hgd := Sp.fresh_good hf
    have hl := hgd.len
    obtain ⟨n, hn⟩ : ∃ n : Nat, pages * 256 / size = n := ⟨(pages * 256 / size).toNat, by rw [Int.toNat_of_nonneg]; exact Int.ediv_nonneg (by have := hone.2.2.2.1; omega) (by have := hone.1; omega)⟩
    have hn' : n ≤ 128 := by simpa [Sp.fresh, hn] using hl
    have hst : (Sp.fresh start size pages batch).st = List.replicate n 0 := by simp [Sp.fresh, hn]
    obtain ⟨i0, hi0, hz0, hz1, hz2⟩ := info_parts info_bool
    have hmk := fun W => run_make (P := Try.prog) W 112 4 i0 (.bool false) Try.underlying112 hi0 hz0 .i64 .i64 n n (by omega) (by omega) (by rw [hz2]; omega) (by omega)
    simp only [Int.toNat_natCast, hz1, Nat.mul_one] at hmk
    have CO := fun W => robj_any W size pages batch hone
    rw [hn] at CO
    have HST := Lib.hid hst
    have HG := Lib.hid hgd
    have HF := Lib.hid hf
    have CH := Lib.hid C
    have COH := Lib.hid CO
    clear C CO hf hone hgd hl hn hst hz0 hz1 hz2 hi0
    go_enter Try.func83, Try.ntmps83
    go_wp2_with (first | (go_at_call 95; refine Grew.use CH.out (fun w1 ho1 => ?_); have bb := b.only ho1 (by simp)))
    have bbd := bb.drew
    go_region_held3 (fun w' => w'.cell? ⟨w.heap.size, 0, none⟩ = some (.int .i64 size) ∧ w'.cell? ⟨w.heap.size, 1, none⟩ = some (.int .i64 pages) ∧ w'.cell? ⟨w.heap.size, 2, none⟩ = some (.int .i64 batch))
      (refine ⟨Blk.cell_ (t := 23) (cs := #[.int .i64 size, .int .i64 pages, .int .i64 batch]) ?_ 0 rfl, Blk.cell_ (t := 23) (cs := #[.int .i64 size, .int .i64 pages, .int .i64 batch]) ?_ 1 rfl, Blk.cell_ (t := 23) (cs := #[.int .i64 size, .int .i64 pages, .int .i64 batch]) ?_ 2 rfl⟩ <;> first | assumption | (refine Blk.alloc ?_ _; assumption) | (refine Blk.alloc (Blk.alloc ?_ _) _; assumption))
      (first | (go_at_call 20; (with_reducible refine Grew.use (COH.out _) (fun w2 ho2 => ?_)); have bb2 := bbd.only ho2 (by simp)))
    go_wp2
    go_ret2
    have hz : w.heap.size + 1 ≤ w1.heap.size := by have := ho1.size; simpa using this
    have hz2 : w1.heap.size ≤ w2.heap.size := by have := ho2.size; simpa using this
    have hst := HST.out
    refine ⟨fun _ => ⟨w2.heap.size + 1, w2.heap.size, n, rfl, ⟨?_, ⟨madeCells #[.bool false] n, (Blk.new w2 4 (madeCells #[.bool false] n)).alloc _, ?_⟩, HG.out⟩, by omega, by omega⟩, fun h => absurd HF.out h, ?_⟩
    · rw [hst, List.length_replicate]
      have := Blk.new (w2.alloc (.cells (madeCells #[.bool false] n) 4)) 114 #[.int .i64 size, .int .i64 pages, .int .i64 batch, .int .i64 start, .slice (some ⟨w2.heap.size, 0, none⟩) n n]
      simpa [Sp.fresh] using this
    · rw [hst, List.length_replicate]
      exact made_rowB n
    · exact (((ho0.trans ho1).trans ((Only.refl [] _).drew.trans ho2)).alloc _).alloc _
  · rw [decide_eq_false hf] at C
    have HF := Lib.hid hf
    have CH := Lib.hid C
    clear C hf
    go_enter Try.func83, Try.ntmps83
    go_wp2_with (first | (go_at_call 95; refine Grew.use CH.out (fun w1 ho1 => ?_)))
    go_ret2
    exact ⟨fun h => absurd h HF.out, fun _ => rfl, ho0.trans ho1⟩

theorem RefAt.of_clone {w : World} {p q g cap' : Nat} {s : Sp} (hg : s.Good) (hh : Blk w p 114 #[.int .i64 s.size, .int .i64 s.pages, .int .i64 s.batch, .int .i64 s.start, .slice (some ⟨g, 0, none⟩) s.st.length cap']) (ho : w.ownsRow q 4 1 (.slice (some ⟨g, 0, none⟩) s.st.length cap') s.st.length (s.st.map (fun x => Value.bool (x == 1)))) : RefAt w p g cap' s := by
  refine ⟨hh, ?_, hg⟩
  rcases ho.2 with ⟨h1, _⟩ | ⟨g', c', cur, he, _, hb, _, _, _, ht⟩
  · cases h1
  · injection he with he1 he2 he3
    injection he1 with he1
    injection he1 with he1
    subst he1
    refine ⟨cur, hb, fun i hi => ?_⟩
    have := congrArg (fun l => l[i]?) ht
    simp only [List.getElem?_take, Nat.mul_one, hi, if_true, Array.getElem?_toList, List.getElem?_map, List.getElem?_eq_getElem hi] at this
    rw [this, List.getD_eq_getElem?_getD, List.getElem?_eq_getElem hi]
    rfl

theorem only_own {l : List Nat} {a w w' : World} {g n c : Nat} (h : Only l a w) (hg : w.grownBy w' (Value.ownBlock (.slice (some ⟨g, 0, none⟩) n c))) (hl : g ∈ l ∨ a.heap.size ≤ g) : Only l a w' :=
  h.grown hg (fun k hk => by
    have : k = g := by injection hk with hk; exact hk.symm
    rw [this]
    exact hl)

set_option maxRecDepth 100000 in
set_option maxHeartbeats 2000000 in
theorem rClone_at {w p q cap s} (h : RefAt w p q cap s) : Calls Try.prog 57 #[.pointer (some ⟨p, 0, none⟩)] w fun e w' =>
    ∃ p' q' cap', e = .returned (.pointer (some ⟨p', 0, none⟩)) ∧ RefAt w' p' q' cap' s ∧ w.heap.size ≤ p' ∧ w.heap.size ≤ q' ∧ Only [] w w' := by
  have hl := h.good.len
  have hn1 := h.good.n1
  obtain ⟨i0, hi0, hz0, hz1, hz2⟩ := info_parts info_bool
  have hd := h.drew
  have hda := h.drew.alloc (.cells #[] 4)
  have HC := Lib.hid (fun j (u : Value) (hu : (s.st.map (fun x => Value.bool (x == 1)))[j]? = some u) => (by
    have hj : j < s.st.length := by
      rcases Nat.lt_or_ge j s.st.length with h1 | h1
      · exact h1
      · rw [List.getElem?_eq_none (by rw [List.length_map]; exact h1)] at hu; cases hu
    rw [List.getElem?_map, List.getElem?_eq_getElem hj] at hu
    have := hda.at_ j hj
    rw [add_plain, this, List.getD_eq_getElem?_getD, List.getElem?_eq_getElem hj]
    exact hu : (w.drew.alloc (.cells #[] 4)).cell? ((⟨q, 0, none⟩ : Addr).add j) = some u))
  have HB1 := Lib.hid (fun (u : Value) (hu : u ∈ s.st.map (fun x => Value.bool (x == 1))) => (by
    simp at hu
    obtain ⟨x, _, rfl⟩ := hu
    rfl : u.oneCell' = true))
  go_enter Try.func57, Try.ntmps57
  go_wp2_with (first | (go_at_call 82; refine Still.use (rmade_at h) ?_))
  go_region_held3 (fun w' => w'.cell? ⟨p, 0, none⟩ = some (.int .i64 s.size) ∧ w'.cell? ⟨p, 1, none⟩ = some (.int .i64 s.pages) ∧ w'.cell? ⟨p, 2, none⟩ = some (.int .i64 s.batch) ∧ w'.cell? ⟨p, 3, none⟩ = some (.int .i64 s.start) ∧ w'.cell? ⟨p, 4, none⟩ = some (.slice (some ⟨q, 0, none⟩) s.st.length cap))
    (refine ⟨RefAt.c0 (q := q) (cap := cap) (s := s) ?_, RefAt.c1 (q := q) (cap := cap) (s := s) ?_, RefAt.c2 (q := q) (cap := cap) (s := s) ?_, RefAt.c3 (q := q) (cap := cap) (s := s) ?_, RefAt.c4 (q := q) (cap := cap) (s := s) ?_⟩ <;> first | assumption | (refine RefAt.alloc ?_ _; assumption))
    (first | (refine step_append_lies _ rfl (.tmp 14) (.tmp 18) 112 rfl w.heap.size 4 i0 (.bool false) 1 1 Try.underlying112 hi0 hz0 hz1 hz2 rfl (by decide) _ _ _ rfl (own0 w.drew 4) ⟨q, 0, none⟩ s.st.length cap (s.st.map (fun x => Value.bool (x == 1))) rfl (by rw [List.length_map, Nat.mul_one]) HC.out HB1.out (by omega) (by unfold maxLen; omega) (by omega) (by simp) (w.heap.size + 1) (by simp) ?_; intro g c' w1 hown1 hg1 hgl hgt; have h1 := hda.only (only_own (Only.refl [w.heap.size] _) hg1 (.inl (by simp))) (by have := h.ltp; simp; omega) (by have := h.ltq; simp; omega)))
  go_wp2
  go_ret
  have hgg : w.heap.size ≤ g := by
    rcases hgl with e | e
    · have : w.heap.size = g := by injection e
      omega
    · omega
  have hz : w.heap.size ≤ w1.heap.size := by have := hg1.size; simp at this; omega
  refine ⟨w1.heap.size, g, c', rfl, RefAt.of_clone (q := w.heap.size) h.good ?_ ?_, hz, hgg, ?_⟩
  · simpa using Blk.new w1 114 #[.int .i64 s.size, .int .i64 s.pages, .int .i64 s.batch, .int .i64 s.start, .slice (some ⟨g, 0, none⟩) s.st.length c']
  · have := hown1.alloc (.cells #[.int .i64 s.size, .int .i64 s.pages, .int .i64 s.batch, .int .i64 s.start, .slice (some ⟨g, 0, none⟩) s.st.length c'] 114)
    simpa using this
  · exact (only_own (((Only.refl [] w).drew).alloc _) hg1 (.inr (Nat.le_refl _))).alloc _
end Go.Proofs.Ytlmjelcnldlagaa
