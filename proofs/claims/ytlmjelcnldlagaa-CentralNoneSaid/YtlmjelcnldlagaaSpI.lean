/- Contracts of slices.Clone and Clone. -/
import Derived.Test.YtlmjelcnldlagaaSpG
import Derived.Test.YtlmjelcnldlagaaSpH
set_option linter.unusedVariables false
set_option linter.unusedSimpArgs false
namespace Go.Proofs.Ytlmjelcnldlagaa
open Go.RowKit

theorem own0 (w : World) (t : Nat) : (w.alloc (.cells #[] t)).ownsRow w.heap.size t 1 (.slice (some ⟨w.heap.size, 0, none⟩) 0 0) 0 [] := World.ownsRow_lit w #[] 0 (Nat.le_refl _) (Nat.zero_le _) rfl

set_option maxHeartbeats 1000000 in
theorem sclone_any (w : World) (ad : Addr) (n cap : Nat) (l : List Int) (h : ReadsI w (some ad) n l) (hn : n ≤ 1000000) (h0 : 0 < n) : Calls Try.prog 81 #[.slice (some ad) n cap] w fun e w' =>
    ∃ v, e = .returned v ∧ w'.ownsRow w.heap.size 3 1 v n (l.map (Value.int .i64)) ∧ Only [] w w' := by
  obtain ⟨i0, hi, hz0, hz1, hz2⟩ := info_parts info_int
  have hnil := Lib.run_eql_slice_nil (P := Try.prog) w 25 3 (some ad) n cap 0 0 Try.underlying25
  obtain ⟨hl, hc⟩ := h
  obtain ⟨ad', he, hc⟩ := hc h0
  obtain rfl : ad = ad' := by injection he
  have HL := Lib.hid hl
  have HC := Lib.hid (fun j (u : Value) (hu : (l.map (Value.int .i64))[j]? = some u) => (by
    have hj : j < n := by
      rcases Nat.lt_or_ge j n with h1 | h1
      · exact h1
      · rw [List.getElem?_eq_none (by rw [List.length_map, hl]; exact h1)] at hu; cases hu
    have hcell := hc j hj
    rw [List.getElem?_map, List.getElem?_eq_getElem (by omega)] at hu
    have hb : (ad.add j).block < w.heap.size := World.block_lt_of_cell? w _ hcell
    rw [World.cell?_alloc_lt w _ _ hb, hcell]
    rw [List.getD_eq_getElem?_getD, List.getElem?_eq_getElem (by omega)]
    exact hu : (w.alloc (.cells #[] 3)).cell? (ad.add j) = some u))
  clear hl hc he
  go_enter Try.func81, Try.ntmps81
  go_wp2_with (at_builtin; refine wpList_append_own _ rfl _ _ 25 rfl w.heap.size 3 i0 (.int .i64 0) 1 8 Try.underlying25 hi hz0 hz1 hz2 rfl (by decide) _ _ _ rfl (own0 w _) ad n cap (l.map (Value.int .i64)) rfl (by rw [List.length_map, HL.out, Nat.mul_one]) HC.out (one_cell_int l) (by unfold maxLen; omega) (by omega) (by simp) ?_; intro v1 w1 hown1 hg1 _)
  go_ret
  refine ⟨_, rfl, by simpa using hown1, ((Only.refl [] w).alloc _).grown hg1 (fun k hk => .inr (own_base (own0 w 0) k hk))⟩

theorem SpanAt.of_clone {w : World} {p q g cap' : Nat} {s : Sp} (hg : s.Good) (hh : Blk w p 102 #[.int .i64 s.start, .int .i64 s.size, .int .i64 s.pages, .int .i64 s.batch, .slice (some ⟨g, 0, none⟩) s.st.length cap', .int .i64 s.many]) (ho : w.ownsRow q 3 1 (.slice (some ⟨g, 0, none⟩) s.st.length cap') s.st.length (s.st.map (Value.int .i64))) : SpanAt w p g cap' s := by
  refine ⟨hh, ?_, hg⟩
  rcases ho.2 with ⟨h1, _⟩ | ⟨g', c', cur, he, _, hb, _, _, _, ht⟩
  · cases h1
  · injection he with he1 he2 he3
    injection he1 with he1
    injection he1 with he1
    subst he1
    refine ⟨cur, hb, fun i hi => ?_⟩
    have := congrArg (fun l => l[i]?) ht
    simp only [List.getElem?_take, Nat.mul_one, hi, if_true, Array.getElem?_toList, List.getElem?_map, List.getElem?_eq_getElem hi] at this
    rw [this, List.getD_eq_getElem?_getD, List.getElem?_eq_getElem hi]
    rfl

set_option maxHeartbeats 1000000 in
theorem Clone_at {w p q cap s} (h : SpanAt w p q cap s) : Calls Try.prog 55 #[.pointer (some ⟨p, 0, none⟩)] w fun e w' =>
    ∃ p' q' cap', e = .returned (.pointer (some ⟨p', 0, none⟩)) ∧ SpanAt w' p' q' cap' s ∧ w.heap.size ≤ p' ∧ w.heap.size ≤ q' ∧ Only [] w w' := by
  have hl := h.good.len
  have hn1 := h.good.n1
  have c0 := h.c0
  have c1 := h.c1
  have c2 := h.c2
  have c3 := h.c3
  have c4 := h.c4
  have c5 := h.c5
  have hpl := h.ltp
  have hql := h.ltq
  go_enter Try.func55, Try.ntmps55
  go_wp2_with (first | (go_at_call 68; refine Still.use (made_at h) ?_) | (go_at_call 81; refine (sclone_any _ ⟨q, 0, none⟩ s.st.length cap s.st (h.alloc _).reads (by omega) (by omega)).mono ?_; rintro e w1 ⟨v, rfl, hown, ho⟩; obtain ⟨g, c', rfl, hg1, hg2⟩ := own_form hown (by omega); have b1 := (Blk.new w 102 #[.int .i64 s.start, .int .i64 s.size, .int .i64 s.pages, .int .i64 s.batch, .slice (some ⟨q, 0, none⟩) s.st.length cap, .int .i64 s.many]).only ho (by simp); have f4 := b1.frozen 4; have b4 := b1.cell_ 4 rfl))
  go_ret
  have hg1' : w.heap.size + 1 ≤ g := by simpa using hg1
  refine ⟨w.heap.size, g, c', rfl, SpanAt.of_clone h.good ?_ (own_only hown ((Only.refl [w.heap.size] w1).setCell (p := ⟨w.heap.size, 4, none⟩) (.inl (by simp)) _) ?_), Nat.le_refl _, by omega, ?_⟩
  · simpa using b1.set_ 4 (.slice (some ⟨g, 0, none⟩) s.st.length c')
  · intro k hk
    simp [Value.ownBlock] at hk
    simp
    omega
  · exact (((Only.refl [] w).alloc _).trans ho).setCell (p := ⟨w.heap.size, 4, none⟩) (.inr (Nat.le_refl _)) _

theorem idx_of_obj {s : Sp} (hg : s.Good) {i m : Int} (h0 : 0 ≤ i) (h1 : i < s.st.length) (hm0 : 0 ≤ m) (hm : m < s.size) : s.idx (s.start * 256 + i * s.size + m) = (i, 0) := by
  have e : (s.start * 256 + i * s.size + m - s.start * 256) = i * s.size + m := by omega
  have hs := hg.s1
  have hle : i * s.size + m < (i + 1) * s.size := by rw [Int.add_mul]; omega
  have hle2 : (i + 1) * s.size ≤ (s.st.length : Int) * s.size := Int.mul_le_mul_of_nonneg_right (by omega) (by omega)
  have hge : 0 ≤ i * s.size := Int.mul_nonneg h0 (by omega)
  have hd : (i * s.size + m) / s.size = i := by
    rw [Int.add_comm, Int.add_mul_ediv_right _ _ (by omega), Int.ediv_eq_zero_of_lt hm0 hm]
    omega
  unfold Sp.idx
  rw [if_neg (by omega), e, if_neg (by omega), hd]

end Go.Proofs.Ytlmjelcnldlagaa
