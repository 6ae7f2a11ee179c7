/- Sweep's closure. -/
import Derived.Test.YtlmjelcnldlagaaLI
import Derived.Deep.RegionLaw
import Derived.Deep.AppendLies
set_option linter.unusedVariables false
set_option linter.unusedSimpArgs false
namespace Go.Proofs.Ytlmjelcnldlagaa
open Go.RowKit

/-- The runs that were struck lie behind a cell of their own. -/
structure OutAt (w0 w : World) (l : List Nat) (o : Nat) (rs : List (Int × Int)) : Prop where
  only : Only l w0 w
  ge : w0.heap.size ≤ o
  lt : o < w.heap.size
  no : o ∉ l
  ex : ∃ v, Blk w o 30 #[v] ∧ w.ownsRow w0.heap.size 37 2 v rs.length (cellsR rs) ∧ v.ownBlock ≠ some o

set_option maxRecDepth 100000 in
set_option maxHeartbeats 4000000 in
theorem struck_any {w0 w : World} {l : List Nat} {o : Nat} {rs : List (Int × Int)} (h : OutAt w0 w l o rs) (hl : ∀ b ∈ l, b < w0.heap.size) {p q cap : Nat} {s : Sp} (hs : SpanAt w p q cap s) (hpo : p ≠ o) (hrs : rs.length ≤ 1024) :
    Calls Try.prog 44 #[.agg #[.int .i64 s.many, .int .i64 s.start, .pointer (some ⟨p, 0, none⟩)], .pointer (some ⟨o, 0, none⟩)] w fun e w' => e = .returned (.bool (s.many == 0)) ∧ OutAt w0 w' l o (if s.many = 0 then rs ++ [(s.start, s.pages)] else rs) ∧ ∀ v, Blk w o 30 #[v] → Only (o :: v.ownBlock.toList) w w' := by
  obtain ⟨ho, hge, hlt, hno, v, hB, hown, hvo⟩ := h
  have huniq : ∀ u, Blk w o 30 #[u] → u = v := fun u hu => by
    have := (hu.cell_ 0 rfl).symm.trans (hB.cell_ 0 rfl)
    injection this
  have hoA := ho.alloc (.cells #[.int .i64 s.many, .int .i64 s.start, .pointer (some ⟨p, 0, none⟩)] 75)
  have bE := Blk.new w 75 #[.int .i64 s.many, .int .i64 s.start, .pointer (some ⟨p, 0, none⟩)]
  have oA := (Only.refl [] w).alloc (.cells #[.int .i64 s.many, .int .i64 s.start, .pointer (some ⟨p, 0, none⟩)] 75)
  have hB1 := hB.only oA (by simp)
  have hown1 := own_only hown oA (by simp)
  have hs1 := hs.only oA (by simp) (by simp)
  by_cases h0 : s.many = 0
  · have d0 : (s.many == 0) = true := by simp [h0]
    have H0 := Lib.hid h0
    rw [if_pos h0]
    obtain ⟨i0, hi, hz0, hz1, hz2⟩ := info_parts info_run
    have hsz := hoA.size
    have hszA : (w.alloc (.cells #[.int .i64 s.many, .int .i64 s.start, .pointer (some ⟨p, 0, none⟩)] 75)).heap.size = w.heap.size + 1 := by simp
    clear h0
    go_enter Try.func44, Try.ntmps44
    go_wp2_with fail
    generalize (w.alloc (.cells #[.int .i64 s.many, .int .i64 s.start, .pointer (some ⟨p, 0, none⟩)] 75)) = w1 at *
    have CR := Lib.hid (Run_at hs1.drew)
    have c2 := bE.cell_ 2 rfl
    have y0 := hB1.cell_ 0 rfl
    have HB1 := Lib.hid hB1
    have HBE := Lib.hid bE
    have HOWN := Lib.hid hown1
    have HVO := Lib.hid hvo
    have HOLT := Lib.hid (own_lt hown)
    have hwo : ¬ (w.heap.size = o) := by omega
    have HOV := Lib.hid (own_base hown)
    clear hs hs1
    go_region_law (first
      | (go_simp; go_at_call 38; refine CR.out.mono ?_; rintro e w2 ⟨rfl, ho2⟩; have y2 := (HB1.out.drew.only ho2 (by simp)).cell_ 0 rfl; have e2 := (HBE.out.drew.only ho2 (by simp)).cell_ 2 rfl; have y2a := ((HB1.out.drew.only ho2 (by simp)).alloc (.cells #[.int .i64 s.start, .int .i64 s.pages] 37)).cell_ 0 rfl; have hown2 := own_only (own_drewN HOWN.out 1) ho2 (by simp); have hsz2 := ho2.size)
      | (refine step_append_lies _ rfl (.tmp 8) (.tmp 12) 30 rfl w0.heap.size 37 i0 (.agg #[.int .i64 0, .int .i64 0]) 2 16 Try.underlying30 hi hz0 hz1 hz2 rfl (by decide) _ _ _ rfl (hown2.alloc _) ⟨w2.heap.size, 0, none⟩ 1 1 [.int .i64 s.start, .int .i64 s.pages] rfl rfl (news_new w2 _ _) (by simp [Value.oneCell']) (by omega) (by unfold maxLen; omega) (by omega) (by simp; simp at hsz2; omega) _ rfl ?_; intro g1 k1 w3 hown3 hg3 hgl3 hgt3; have o3 : Only v.ownBlock.toList (w2.alloc (.cells #[.int .i64 s.start, .int .i64 s.pages] 37)) w3 := (Only.refl _ _).grown hg3 (fun b hb => .inl (Option.mem_toList.2 (show v.ownBlock = some b from hb))); have B3 := ((HB1.out.drew.only ho2 (by simp)).alloc (.cells #[.int .i64 s.start, .int .i64 s.pages] 37)).only o3 (fun h => HVO.out (Option.mem_toList.1 h)); have E3 := ((HBE.out.drew.only ho2 (by simp)).alloc (.cells #[.int .i64 s.start, .int .i64 s.pages] 37)).only o3 (fun h => Nat.lt_irrefl _ (HOLT.out _ (Option.mem_toList.1 h))); have e3 := E3.cell_ 0 rfl; have y3 := B3.cell_ 0 rfl; have f3 := B3.frozen 0))
    all_goals
      go_wp2
      go_ret
      have hgO : g1 ≠ o := by
        rcases hgl3 with h | h
        · intro e
          subst e
          exact HVO.out h
        · simp at h hsz2
          omega
      have hgN : Only l w0 w3 := (((hoA.drew.trans ho2.of_nil).alloc _).then_ o3 (fun b hb => .inr (HOV.out b (Option.mem_toList.1 hb))))
      have hsz3 := o3.size
      refine ⟨by rw [H0.out]; rfl, ⟨hgN.setCell (.inr hge) _, hge, by simp at hsz3 hsz2 ⊢; omega, hno, _, B3.set_ 0 _, ?_, fun e => hgO (by injection e)⟩, fun u hu => ?_⟩
      · rw [cellsR_append, List.length_append]
        simp only [List.length_singleton]
        exact own_only hown3 ((Only.refl [o] w3).setCell (.inl (by simp)) _) (fun b hb hbo => hgO (by
          simp at hbo
          subst hbo
          injection hb))
      · obtain rfl := huniq u hu
        exact (((oA.drew.trans ho2).alloc _).of_nil.trans (o3.mono (fun b hb => List.mem_cons_of_mem _ hb))).setCell (.inl (by simp)) _
  · have d0 : (s.many == 0) = false := by simp [h0]
    have H0 := Lib.hid h0
    rw [if_neg h0]
    clear h0 hs hs1
    generalize s.many = mn at *
    go_enter Try.func44, Try.ntmps44
    go_wp2_with fail
    go_ret
    exact ⟨by rw [d0]; rfl, ⟨hoA, hge, by simp; omega, hno, v, hB1, hown1, hvo⟩, fun u hu => oA.of_nil⟩
end Go.Proofs.Ytlmjelcnldlagaa
