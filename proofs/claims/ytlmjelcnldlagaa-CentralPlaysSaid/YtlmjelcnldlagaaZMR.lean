/- A list and the reference's, side by side; play. -/
import Derived.Test.YtlmjelcnldlagaaZMQ
import Derived.Deep.RegionHeld3
set_option linter.unusedVariables false
set_option linter.unusedSimpArgs false
namespace Go.Proofs.Ytlmjelcnldlagaa
open Go.RowKit

theorem qFind_st {w : World} {P : Nat} {bl : List Nat} {c : Cl} {M : List Sp} (h : QSt w P bl c M) (a : Int) :
    Grew Try.prog 62 #[.pointer (some ⟨P, 0, none⟩), .int .i64 a] w (.tuple #[.int .i64 (findM M a).1, .int .i64 (findM M a).2]) := by
  obtain ⟨⟨A, L, h1, rfl, h3⟩, h4⟩ := h
  exact qFind_at h1 a
theorem qIsTaken_st {w : World} {P : Nat} {bl : List Nat} {c : Cl} {M : List Sp} (h : QSt w P bl c M) (a : Int) :
    Grew Try.prog 63 #[.pointer (some ⟨P, 0, none⟩), .int .i64 a] w (.tuple #[.bool (isTk M a).1, .int .i64 (isTk M a).2]) := by
  obtain ⟨⟨A, L, h1, rfl, h3⟩, h4⟩ := h
  exact qIsTaken_at h1 a
theorem qTaken_st {w : World} {P : Nat} {bl : List Nat} {c : Cl} {M : List Sp} (h : QSt w P bl c M) : Grew Try.prog 65 #[.pointer (some ⟨P, 0, none⟩)] w (.int .i64 (manyOf M)) := by
  obtain ⟨⟨A, L, h1, rfl, h3⟩, h4⟩ := h
  exact qTaken_at h1
theorem qRoom_st {w : World} {P : Nat} {bl : List Nat} {c : Cl} {M : List Sp} (h : QSt w P bl c M) : Grew Try.prog 64 #[.pointer (some ⟨P, 0, none⟩)] w (.int .i64 (roomOf M)) := by
  obtain ⟨⟨A, L, h1, rfl, h3⟩, h4⟩ := h
  exact qRoom_at h1
theorem qClass_st {w : World} {P : Nat} {bl : List Nat} {c : Cl} {M : List Sp} (h : QSt w P bl c M) : Grew Try.prog 66 #[.pointer (some ⟨P, 0, none⟩)] w (.agg #[.int .i64 c.size, .int .i64 c.pages, .int .i64 c.batch]) := by
  obtain ⟨⟨A, L, h1, rfl, h3⟩, h4⟩ := h
  exact qClass_at h1
theorem qSpans_st {w : World} {P : Nat} {bl : List Nat} {c : Cl} {M : List Sp} (h : QSt w P bl c M) : Calls Try.prog 67 #[.pointer (some ⟨P, 0, none⟩)] w fun e w' =>
    ∃ v, e = .returned v ∧ Only [] w w' ∧ w'.ownsRow w.heap.size 37 2 v M.length (cellsR (spansOf M)) := by
  obtain ⟨⟨A, L, h1, rfl, h3⟩, h4⟩ := h
  rw [spans_len]
  exact qSpans_at h1

/-- A list and a reference's list, made since the world w0, apart. -/
structure TwoL (w0 w : World) (P : Nat) (bl : List Nat) (Q : Nat) (bq : List Nat) (c : Cl) (M M' : List Sp) : Prop where
  only : Only [] w0 w
  l : ListSt w P bl c M
  r : QSt w Q bq c M'
  ap : ∀ b ∈ bq, b ∉ bl
  lb : ∀ b ∈ bl, w0.heap.size ≤ b
  rb : ∀ b ∈ bq, w0.heap.size ≤ b
namespace TwoL
variable {w0 w w1 : World} {P Q : Nat} {bl bq : List Nat} {c : Cl} {M M' M1 : List Sp}
theorem still (h : TwoL w0 w P bl Q bq c M M') (ho : Only [] w w1) : TwoL w0 w1 P bl Q bq c M M' := ⟨h.only.trans ho, h.l.still ho, h.r.still ho, h.ap, h.lb, h.rb⟩
theorem left (h : TwoL w0 w P bl Q bq c M M') (ht : LTurn w P bl w1 c M1) : ∃ bl1, TwoL w0 w1 P bl1 Q bq c M1 M' := by
  obtain ⟨ho, l', hs, hl'⟩ := ht
  refine ⟨l', h.only.then_ ho (fun b hb => .inr (h.lb b hb)), hs, h.r.only ho h.ap, fun b hb hb' => ?_, fun b hb => ?_, h.rb⟩
  · rcases hl' b hb' with h1 | h1
    · exact h.ap b hb h1
    · have := h.r.lt b hb; omega
  · rcases hl' b hb with h1 | h1
    · exact h.lb b h1
    · have := h.only.size; omega
theorem right (h : TwoL w0 w P bl Q bq c M M') (ht : QTurn w Q bq w1 c M1) : ∃ bq1, TwoL w0 w1 P bl Q bq1 c M M1 := by
  obtain ⟨ho, l', hs, hl'⟩ := ht
  refine ⟨l', h.only.then_ ho (fun b hb => .inr (h.rb b hb)), h.l.only ho (fun b hb hb' => h.ap b hb' hb), hs, fun b hb hb' => ?_, h.lb, fun b hb => ?_⟩
  · rcases hl' b hb with h1 | h1
    · exact h.ap b h1 hb'
    · have := h.l.lt b hb'; omega
  · rcases hl' b hb with h1 | h1
    · exact h.rb b h1
    · have := h.only.size; omega
theorem lold (h : TwoL w0 w P bl Q bq c M M') {b : Nat} (hb : b < w0.heap.size) : b ∉ bl := fun h1 => by have := h.lb b h1; omega
theorem rold (h : TwoL w0 w P bl Q bq c M M') {b : Nat} (hb : b < w0.heap.size) : b ∉ bq := fun h1 => by have := h.rb b h1; omega
theorem lnew (h : TwoL w0 w P bl Q bq c M M') : w.heap.size ∉ bl := fun h1 => by have := h.l.lt _ h1; omega
theorem rnew (h : TwoL w0 w P bl Q bq c M M') : w.heap.size ∉ bq := fun h1 => by have := h.r.lt _ h1; omega
end TwoL

theorem takes_many {c : Cl} {M : List Sp} (hg : GoodL c M) (k : Nat) : GoodL c (takesTo M k).2 ∧ manyOf (takesTo M k).2 = manyOf M + (takesTo M k).1.length := by
  induction k with
  | zero => exact ⟨hg, by simp [takesTo]⟩
  | succ k ih =>
    obtain ⟨i1, i2⟩ := ih
    cases hok : (one7 (takesTo M k).2).1.2 with
    | false => rw [takesTo, if_neg (by rw [hok]; decide)]; exact ⟨i1, i2⟩
    | true =>
      rw [takesTo_more hok]
      have hm := i1.one_many hok
      obtain ⟨b, hb, he⟩ := one7_some hok
      obtain ⟨g1, g2, g3⟩ := TK_take i1 hb
      rw [he] at hm ⊢
      dsimp only at hm ⊢
      refine ⟨g1, ?_⟩
      rw [hm, i2, List.length_append]
      simp only [List.length_cons, List.length_nil]
      omega
theorem takes_le {c : Cl} {M : List Sp} (hg : GoodL c M) (k : Nat) : ((takesTo M k).1.length : Int) ≤ 131072 := by
  obtain ⟨g, h⟩ := takes_many hg k
  have a1 := g.many_le
  have a2 := hg.many_le
  omega
theorem ReadsI.only' {w w' : World} {A : Option Addr} {n : Nat} {l : List Int} {L : List Nat} (h : ReadsI w A n l) (ho : Only L w w') (hn : 0 < n → ∀ ad, A = some ad → ad.block ∉ L) : ReadsI w' A n l := by
  refine ⟨h.1, fun h0 => ?_⟩
  exact (h.only ho (hn h0)).2 h0

set_option maxRecDepth 100000 in
set_option maxHeartbeats 8000000 in
theorem lplay2 {w0 w : World} {P Q : Nat} {bl bq : List Nat} {c : Cl} {M : List Sp} (h : TwoL w0 w P bl Q bq c M M) (x : Ac7) (hx : x.okAt w) (hn : x.n ≤ 60) (hB : 0 < x.n → ∀ ad, x.B = some ad → ad.block < w0.heap.size) :
    Calls Try.prog 35 #[.pointer (some ⟨P, 0, none⟩), .pointer (some ⟨Q, 0, none⟩), x.val] w fun e w' => e = .returned (.bool true) ∧ ∃ bl1 bq1, TwoL w0 w' P bl1 Q bq1 c (actM c M x) (actM c M x) := by
  obtain ⟨k, a, B, n, cap, o⟩ := x
  obtain ⟨hk, ha, hro, hio, hcap, hb63⟩ := hx
  unfold Ac7.val
  dsimp only at hk ha hro hio hcap hb63 hn hB ⊢
  have ho0 := (Only.refl [] w).alloc (.cells #[.int .i64 k, .int .i64 a, .slice B n cap] 47)
  have bX := Blk.new w 47 #[.int .i64 k, .int .i64 a, .slice B n cap]
  have HT := Lib.hid (h.still ho0)
  have HTd := Lib.hid (h.still ho0.drew)
  have NL := Lib.hid h.lnew
  have NR := Lib.hid h.rnew
  have HRO := Lib.hid (hro.still ho0)
  have HIO := Lib.hid hio
  have HB := Lib.hid hB
  have BX := Lib.hid bX
  have x0 := bX.cell_ 0 rfl
  have x1 := bX.cell_ 1 rfl
  have x2 := bX.cell_ 2 rfl
  have HG := Lib.hid h.l.goodL
  clear h hk hro hio hB bX
  by_cases k0 : k = 0
  · subst k0
    have bX := BX.out.drew
    clear x0 x1 x2
    go_enter Try.func35, Try.ntmps35
    have x0 := BX.out.cell_ 0 rfl
    go_wp2_with fail
    go_region_held3 (fun w' => w'.cell? ⟨w.heap.size, 1, none⟩ = some (.int .i64 a))
      (refine Blk.cell_ (t := 47) (cs := #[.int .i64 0, .int .i64 a, .slice B n cap]) ?_ 1 rfl <;> assumption)
      (first
        | (go_at_call 23; refine (lAdd_at HTd.out.l a ha).mono ?_; rintro e w2 ⟨rfl, hT⟩; obtain ⟨bl2, h2⟩ := HTd.out.left hT; have b2 := bX.only hT.1 NL.out)
        | (go_at_call 58; refine (qAdd_at h2.r a ha).mono ?_; rintro e w3 ⟨rfl, hT3⟩; obtain ⟨bq3, h3⟩ := h2.right hT3; have b3 := b2.only hT3.1 NR.out))
    go_wp2
    go_ret
    exact ⟨rfl, bl2, bq3, h3⟩
  have d0 : (k == 0) = false := beq_eq_false_iff_ne.2 k0
  by_cases k1 : k = 1
  · subst k1
    have CT := Lib.hid (lTake_at HT.out.l a)
    by_cases hneg : a < 0
    · have HN := Lib.hid hneg
      have E : Hid (actM c M ⟨1, a, B, n, cap, o⟩ = M) := by show (if a < 0 then M else (takesTo M a.toNat).2) = M; rw [if_pos hneg]
      clear hneg
      go_enter Try.func35, Try.ntmps35
      go_wp2_with fail
      refine CT.out.mono ?_
      rintro e w1 ⟨ho1, h1, _⟩
      obtain ⟨rfl, hst⟩ := h1 HN.out
      obtain ⟨bl2, h2⟩ := HT.out.left ⟨ho1, bl, hst, fun b hb => .inl hb⟩
      have b1 := BX.out.only ho1 NL.out
      have y1 := b1.cell_ 1 rfl
      have CQ := Lib.hid (qTake_at h2.r a)
      have H2 := Lib.hid h2
      clear h1 hst h2 x0 x1 x2
      go_wp2_with fail
      refine CQ.out.mono ?_
      rintro e w2 ⟨ho2, h1, _⟩
      obtain ⟨rfl, hst⟩ := h1 HN.out
      obtain ⟨bq3, h3⟩ := H2.out.right ⟨ho2, bq, hst, fun b hb => .inl hb⟩
      have H3 := Lib.hid h3
      clear h1 hst h3
      go_wp2_with (go_at_call 28; with_reducible refine Grew.use (ints_nil _) (fun w3 ho3 => ?_))
      go_ret
      exact ⟨rfl, bl2, bq3, by rw [E.out]; exact H3.out.still ho3⟩
    · have HN := Lib.hid (Int.not_lt.1 hneg)
      have E : Hid (actM c M ⟨1, a, B, n, cap, o⟩ = (takesTo M a.toNat).2) := by show (if a < 0 then M else (takesTo M a.toNat).2) = _; rw [if_neg hneg]
      clear hneg
      go_enter Try.func35, Try.ntmps35
      go_wp2_with fail
      refine CT.out.mono ?_
      rintro e w1 ⟨ho1, _, h1⟩
      obtain ⟨v1, rfl, hst, hown⟩ := h1 HN.out
      obtain ⟨bl2, h2⟩ := HT.out.left ⟨ho1, bl, hst, fun b hb => .inl hb⟩
      have hlen := takes_le HG.out a.toNat
      have b1 := BX.out.only ho1 NL.out
      have y1 := b1.cell_ 1 rfl
      have CQ := Lib.hid (qTake_at h2.r a)
      have H2 := Lib.hid h2
      have HOW := Lib.hid hown
      clear h1 hst h2 x0 x1 x2 hown
      obtain ⟨A1, c1, rfl, _⟩ := own_slice HOW.out
      go_wp2_with fail
      refine CQ.out.mono ?_
      rintro e w2 ⟨ho2, _, h1⟩
      obtain ⟨v2, rfl, hst, hown2⟩ := h1 HN.out
      obtain ⟨bq3, h3⟩ := H2.out.right ⟨ho2, bq, hst, fun b hb => .inl hb⟩
      have hown1 := own_only HOW.out ho2 (fun x hx hb => by
        have a1 := own_base HOW.out x hx
        have a2 := HT.out.r.lt x hb
        omega)
      have CI := Lib.hid (ints_two w2 hown1 hown2 (by omega))
      have H3 := Lib.hid h3
      clear h1 hst h3 hown1 hown2
      go_wp2_with (go_at_call 28; with_reducible refine Grew.use CI.out (fun w3 ho3 => ?_))
      go_ret
      exact ⟨rfl, bl2, bq3, by rw [E.out]; exact H3.out.still ho3⟩
  have d1 : (k == 1) = false := beq_eq_false_iff_ne.2 k1
  by_cases k2 : k = 2
  · subst k2
    have E : Hid (actM c M ⟨2, a, B, n, cap, o⟩ = putM M o) := rfl
    have CP := Lib.hid (lPut_at HT.out.l B n cap o HRO.out HIO.out (by omega) hcap (fun h0 ad e => HT.out.lold (HB.out h0 ad e)))
    go_enter Try.func35, Try.ntmps35
    go_wp2_with fail
    refine CP.out.mono ?_
    rintro e w1 ⟨v1, rfl, ho1, hst, hown⟩
    obtain ⟨bl2, h2⟩ := HT.out.left ⟨ho1, bl, hst, fun b hb => .inl hb⟩
    have b1 := BX.out.only ho1 NL.out
    have y2 := b1.cell_ 2 rfl
    have hrd1 := HRO.out.only' ho1 (fun h0 ad e => HT.out.lold (HB.out h0 ad e))
    have CQ := Lib.hid (qPut_at h2.r B n cap o hrd1 HIO.out (by omega) hcap)
    have H2 := Lib.hid h2
    have HOW := Lib.hid hown
    have HLN := Lib.hid (show (putR M o).length ≤ 1024 by
      unfold putR
      split
      · have := zeroTo_len (freeTo M o o.length) (freeTo M o o.length).length
        have h5 := (freeTo_like M o o.length).1
        have := HG.out.len
        show (zeroTo _ _).length ≤ 1024
        omega
      · simp)
    generalize putE M o = ee at *
    generalize putR M o = rr at *
    clear hst h2 x0 x1 x2 hown hrd1
    obtain ⟨A1, c1, rfl, _⟩ := own_slice HOW.out
    go_wp2_with fail
    refine CQ.out.mono ?_
    rintro e w2 ⟨v2, rfl, hT2, hown2⟩
    obtain ⟨bq3, h3⟩ := H2.out.right hT2
    have hown1 := own_only HOW.out hT2.1 (fun x hx hb => by
      have a1 := own_base HOW.out x hx
      have a2 := HT.out.r.lt x hb
      omega)
    have CI := Lib.hid (Runs_eq w2 _ _ rr.length rr (own_readsR hown1 rfl) (own_readsR hown2 rfl) (by have := HLN.out; omega))
    have H3 := Lib.hid h3
    clear h3 hown1 hown2 hT2
    go_wp2_with (go_at_call 30; with_reducible refine Grew.use CI.out (fun w3 ho3 => ?_))
    go_ret
    exact ⟨rfl, bl2, bq3, by rw [E.out]; exact H3.out.still ho3⟩
  have d2 : (k == 2) = false := beq_eq_false_iff_ne.2 k2
  by_cases k3 : k = 3
  · subst k3
    have E : Hid (actM c M ⟨3, a, B, n, cap, o⟩ = keptOf M) := rfl
    have CP := Lib.hid (lSweep_at HT.out.l)
    go_enter Try.func35, Try.ntmps35
    go_wp2_with fail
    refine CP.out.mono ?_
    rintro e w1 ⟨v1, rfl, hown, ho1, hst⟩
    obtain ⟨bl2, h2⟩ := HT.out.left ⟨ho1, bl, hst, fun b hb => .inl hb⟩
    have CQ := Lib.hid (qSweep_at h2.r)
    have H2 := Lib.hid h2
    have HOW := Lib.hid hown
    have HLN := Lib.hid (show (zeroOf M).length ≤ 1024 by
      have := zeroTo_len M M.length
      have := HG.out.len
      show (zeroTo _ _).length ≤ 1024
      omega)
    generalize zeroOf M = rr at *
    clear hst h2 x0 x1 x2 hown
    obtain ⟨A1, c1, rfl, _⟩ := own_slice HOW.out
    go_wp2_with fail
    refine CQ.out.mono ?_
    rintro e w2 ⟨v2, rfl, hown2, hT2⟩
    obtain ⟨bq3, h3⟩ := H2.out.right hT2
    have hown1 := own_only HOW.out hT2.1 (fun x hx hb => by
      have a1 := own_base HOW.out x hx
      have a2 := HT.out.r.lt x hb
      omega)
    have CI := Lib.hid (Runs_eq w2 _ _ rr.length rr (own_readsR hown1 rfl) (own_readsR hown2 rfl) (by have := HLN.out; omega))
    have H3 := Lib.hid h3
    clear h3 hown1 hown2 hT2
    go_wp2_with (go_at_call 30; with_reducible refine Grew.use CI.out (fun w3 ho3 => ?_))
    go_ret
    exact ⟨rfl, bl2, bq3, by rw [E.out]; exact H3.out.still ho3⟩
  have d3 : (k == 3) = false := beq_eq_false_iff_ne.2 k3
  by_cases k4 : k = 4
  · subst k4
    have CF := Lib.hid (lFind_st HT.out.l a ha)
    have CQ := Lib.hid (fun W (h1 : Only [] _ W) => qFind_st (HT.out.still h1).r a)
    have E : Hid (actM c M ⟨4, a, B, n, cap, o⟩ = M) := rfl
    generalize (findM M a).2 = ee at *
    generalize (findM M a).1 = ff at *
    go_enter Try.func35, Try.ntmps35
    go_wp2_with (first | (go_at_call 52; with_reducible refine Grew.use CF.out (fun w1 ho1 => ?_); have y1 := (BX.out.only ho1 (by simp)).cell_ 1 rfl) | (go_at_call 62; with_reducible refine Grew.use (CQ.out _ ho1) (fun w2 ho2 => ?_)))
    go_ret
    exact ⟨rfl, bl, bq, by rw [E.out]; exact (HT.out.still ho1).still ho2⟩
  have d4 : (k == 4) = false := beq_eq_false_iff_ne.2 k4
  by_cases k5 : k = 5
  · subst k5
    have CF := Lib.hid (lIsTaken_st HT.out.l a ha)
    have CQ := Lib.hid (fun W (h1 : Only [] _ W) => qIsTaken_st (HT.out.still h1).r a)
    have E : Hid (actM c M ⟨5, a, B, n, cap, o⟩ = M) := rfl
    generalize (isTk M a).2 = ee at *
    generalize (isTk M a).1 = ff at *
    go_enter Try.func35, Try.ntmps35
    go_wp2_with (first | (go_at_call 39; with_reducible refine Grew.use CF.out (fun w1 ho1 => ?_); have y1 := (BX.out.only ho1 (by simp)).cell_ 1 rfl) | (go_at_call 63; with_reducible refine Grew.use (CQ.out _ ho1) (fun w2 ho2 => ?_)))
    go_ret
    exact ⟨rfl, bl, bq, by rw [E.out]; exact (HT.out.still ho1).still ho2⟩
  have d5 : (k == 5) = false := beq_eq_false_iff_ne.2 k5
  have E2 := Lib.hid (show actM c M ⟨k, a, B, n, cap, o⟩ = M by unfold actM; dsimp only; rw [if_neg k0, if_neg k1, if_neg k2, if_neg k3])
  clear k0 k1 k2 k3 k4 k5
  go_enter Try.func35, Try.ntmps35
  go_wp2_with fail
  go_ret
  exact ⟨rfl, bl, bq, by rw [E2.out]; exact HT.out⟩
end Go.Proofs.Ytlmjelcnldlagaa
