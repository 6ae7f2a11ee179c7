/- taken: how many objects of each span are taken. -/
import Derived.Test.YtlmjelcnldlagaaZLW
set_option linter.unusedVariables false
set_option linter.unusedSimpArgs false
namespace Go.Proofs.Ytlmjelcnldlagaa
open Go.RowKit

/-- The objects of a span that IsTaken finds taken, of the first k. -/
theorem GoodL.objs {c : Cl} {M : List Sp} (hg : GoodL c M) {i : Nat} (hi : i < M.length) : ((sAt M i).st.length : Int) = c.pages * 256 / c.size := by
  obtain ⟨g, h1, h2, h3⟩ := hg.sp i hi
  have a1 := g.n2
  have a2 := g.n3
  have a3 := g.s1
  rw [h1] at a1 a2 a3
  rw [h2] at a1 a2
  have b1 : ((sAt M i).st.length : Int) ≤ c.pages * 256 / c.size := (Int.le_ediv_iff_mul_le (by omega)).2 a1
  have b2 : c.pages * 256 / c.size < ((sAt M i).st.length : Int) + 1 := (Int.ediv_lt_iff_lt_mul (by omega)).2 a2
  omega
/-- The byte of an object is of that span, and of no other. -/
theorem GoodL.of_obj {c : Cl} {M : List Sp} (hg : GoodL c M) {i k : Nat} (hi : i < M.length) (hk : k < (sAt M i).st.length) : ofI M ((sAt M i).start * 256 + k * c.size) = some i ∧ (sAt M i).idx ((sAt M i).start * 256 + k * c.size) = ((k : Int), (0 : Int)) := by
  obtain ⟨g, h1, h2, h3⟩ := hg.sp i hi
  have hx := idx_of_obj g (i := k) (m := 0) (by omega) (by omega) (by omega) (by have := g.s1; omega)
  rw [Int.add_zero, h1] at hx
  refine ⟨ofI_some hi (by rw [hx]) (fun j hj he => ?_), hx⟩
  obtain ⟨gj, j1, j2, j3⟩ := hg.sp j (by omega)
  have ho := hg.ord j i hj hi
  have hkk : (0 : Int) ≤ (k : Int) * c.size := Int.mul_nonneg (by omega) (by have := g.s1; omega)
  have hn2 := gj.n2
  have hb := gj.b1
  unfold Sp.idx at he
  split at he
  · cases he
  · split at he
    · cases he
    · rename_i _ hlt
      rw [j2] at hn2 ho
      omega
theorem GoodL.tk_obj {c : Cl} {M : List Sp} (hg : GoodL c M) {i k : Nat} (hi : i < M.length) (hk : k < (sAt M i).st.length) : isTk M ((sAt M i).start * 256 + k * c.size) = ((sAt M i).st.getD k 0 == 1, 0) := by
  obtain ⟨h1, h2⟩ := hg.of_obj hi hk
  rw [isTk_of h1]
  have ho : (sAt M i).obj ((sAt M i).start * 256 + k * c.size) = ((k : Int), (0 : Int)) := by
    unfold Sp.obj Sp.at_
    rw [h2, if_pos rfl, (hg.sp i hi).2.1, if_pos rfl]
  unfold Sp.tkn
  rw [ho, if_pos rfl, Int.toNat_natCast]
/-- The sum of the first k states. -/
theorem many_take {s : Sp} (hg : s.Good) (k : Nat) (hk : k ≤ s.st.length) : 0 ≤ (s.st.take k).sum ∧ (s.st.take k).sum ≤ k := by
  have h := sum_range (s.st.take k) (fun i hi => by
    rw [List.length_take] at hi
    have := hg.bits i (by omega)
    rw [List.getD_eq_getElem?_getD, List.getElem?_take, if_pos (by omega), ← List.getD_eq_getElem?_getD]
    exact this)
  rw [List.length_take] at h
  omega
theorem sum_take1 (l : List Int) (k : Nat) (hk : k < l.length) : (l.take (k + 1)).sum = (l.take k).sum + l.getD k 0 := by
  rw [List.take_succ_eq_append_getElem hk, List.sum_append]
  simp [List.getD_eq_getElem?_getD, List.getElem?_eq_getElem hk]

/-- The taken objects of the first k spans, one number each. -/
def takenTo (M : List Sp) : Nat → List Int
  | 0 => []
  | k + 1 => takenTo M k ++ [(sAt M k).many]
theorem takenTo_len (M : List Sp) (k : Nat) : (takenTo M k).length = k := by
  induction k with
  | zero => rfl
  | succ k ih => rw [takenTo, List.length_append, ih]; rfl
theorem takenTo_at (M : List Sp) (k j : Nat) (h : j < k) : (takenTo M k).getD j 0 = (sAt M j).many := by
  induction k with
  | zero => omega
  | succ k ih =>
    rw [takenTo, List.getD_eq_getElem?_getD]
    by_cases h1 : j = k
    · subst h1
      rw [List.getElem?_append_right (by rw [takenTo_len]; exact Nat.le_refl _), takenTo_len]
      simp
    · rw [List.getElem?_append_left (by rw [takenTo_len]; omega), ← List.getD_eq_getElem?_getD]
      exact ih (by omega)

set_option maxRecDepth 100000 in
set_option maxHeartbeats 8000000 in
theorem ltaken_any {w : World} {P : Nat} {bl : List Nat} {c : Cl} {M : List Sp} (h : ListSt w P bl c M) : Calls Try.prog 19 #[.pointer (some ⟨P, 0, none⟩)] w fun e w' =>
    ∃ v, e = .returned v ∧ Only [] w w' ∧ w'.ownsRow w.heap.size 3 1 v M.length ((takenTo M M.length).map (Value.int .i64)) := by
  have HA := Lib.hid h
  have HG := Lib.hid h.goodL
  have hlen := h.goodL.len
  obtain ⟨g1, g2, g3⟩ := h.goodL.ok.objs
  have HOBJ := Lib.hid g3
  have HOK := Lib.hid h.goodL.ok
  have S1 := Lib.hid (fun W (ho : Only [] w W) => lSpans_st (HA.out.still ho))
  have C1 := Lib.hid (fun W (ho : Only [] w W) => lClass_st (HA.out.still ho))
  have K1 := Lib.hid (fun W (ho : Only [] w W) a (ha : I64 a) => lIsTaken_st (HA.out.still ho) a ha)
  have HOJ := Lib.hid (fun W => robj_any W c.size c.pages c.batch HOK.out)
  have HOBN := Lib.hid (fun i (hi : i < M.length) => HG.out.objs hi)
  obtain ⟨i0, hi, hz0, hz1, hz2⟩ := info_parts info_int
  clear h g3
  generalize hN : c.pages * 256 / c.size = ob at *
  clear hN
  go_enter Try.func19, Try.ntmps19
  go_wp2_with fail
  refine (S1.out w (Only.refl _ _)).mono ?_
  rintro e wA ⟨v, rfl, oA, hown⟩
  obtain ⟨A, cp, rfl, _⟩ := own_slice hown
  have HOWN := Lib.hid hown
  obtain ⟨N, hN⟩ : ∃ N, N = M.length := ⟨_, rfl⟩
  have HN := Lib.hid hN
  rw [← hN] at hlen
  clear hown hN
  go_wp2_with (go_at_call 45; with_reducible refine Grew.use (C1.out wA oA) (fun wC hoC => ?_))
  have bC := Blk.new wC 23 #[.int .i64 c.size, .int .i64 c.pages, .int .i64 c.batch]
  have oD := (oA.trans hoC).alloc (.cells #[.int .i64 c.size, .int .i64 c.pages, .int .i64 c.batch] 23)
  have HOWD := Lib.hid ((own_only HOWN.out hoC (by simp)).alloc (.cells #[.int .i64 c.size, .int .i64 c.pages, .int .i64 c.batch] 23))
  generalize wC.alloc (.cells #[.int .i64 c.size, .int .i64 c.pages, .int .i64 c.batch] 23) = wD at *
  generalize wC.heap.size = cb at *
  have HBC := Lib.hid bC
  have HOD := Lib.hid oD
  clear bC oD hoC oA S1 C1 HOWN
  rw [← HN.out]
  go_loopw [3, 6] (fun u t wr => ∃ i : Nat, i ≤ N ∧ t = .int .i64 i ∧ Only [] wD wr ∧ wr.ownsRow wD.heap.size 3 1 u i ((takenTo M i).map (Value.int .i64))) (fun _ t _ => N - (intOf t).toNat)
  case atStart => exact ⟨0, Nat.zero_le _, rfl, Only.refl _ _, World.ownsRow_nil _ _ _ _⟩
  case round =>
    obtain ⟨i, hi', rfl, ho, hown⟩ := hrel
    obtain ⟨B, cB, rfl, _⟩ := own_slice hown
    by_cases hlt : i < N
    · have d1 : decide ((i : Int) < N) = true := decide_eq_true (by omega)
      have hiM : i < M.length := by rw [← HN.out]; exact hlt
      have HIM := Lib.hid hiM
      have HO := Lib.hid ho
      have hobn := HOBN.out i hiM
      have HU := Lib.hid hown
      have HTS : Hid (takenTo M (i + 1) = takenTo M i ++ [(sAt M i).many]) := rfl
      obtain ⟨m1, m2⟩ := (HG.out.sp i hiM).1.many
      have HMS : Hid ((sAt M i).many = ((sAt M i).st.take (sAt M i).st.length).sum) := by show _ = _; rw [List.take_length]; exact (HG.out.sp i hiM).1.cnt
      have HMT := Lib.hid (fun k (hk : k ≤ (sAt M i).st.length) => many_take (HG.out.sp i HIM.out).1 k hk)
      have hsz := ho.size
      generalize hln : (sAt M i).st.length = ln at *
      have HLN := Lib.hid hln
      clear hiM ho hown hln
      go_wp2_with fail
      go_loopw [7, 8] (fun u t wr' => ∃ (k : Nat) (s : Int), k ≤ ln ∧ u = .int .i64 s ∧ t = .int .i64 k ∧ Only [] wr wr' ∧ s = ((sAt M i).st.take k).sum ∧ 0 ≤ s ∧ s ≤ k) (fun _ t _ => ln - (intOf t).toNat)
      case atStart => exact ⟨0, 0, Nat.zero_le _, rfl, rfl, Only.refl _ _, by simp, by omega, by omega⟩
      case round =>
        obtain ⟨k, s, hk, rfl, rfl, ho, hs, s1, s2⟩ := hrel
        have HS := Lib.hid hs
        have bC := HBC.out.only (HO.out.trans ho) (by simp)
        have x0 := bC.cell_ 0 rfl
        have x1 := bC.cell_ 1 rfl
        have x2 := bC.cell_ 2 rfl
        clear hs
        have CO := Lib.hid (HOJ.out wr)
        by_cases hlk : k < ln
        · have d2 : decide ((k : Int) < ob) = true := decide_eq_true (by omega)
          have HF := Lib.hid (fun W (h : Only [] wr W) => And.intro ((bC.only h (by simp)).cell_ 0 rfl) (ho.trans h))
          obtain ⟨g, cp', e1, _⟩ := own_form HOWD.out (by rw [← HN.out]; omega)
          injection e1 with e1 _ e3
          subst e1 e3
          have HR := Lib.hid (fun W (h : Only [] wD W) => own_spans (own_only HOWD.out h (by simp)) rfl HIM.out)
          obtain ⟨m1', m2'⟩ := HOBJ.out k (by omega) (by omega)
          have gs := (HG.out.sp i HIM.out).1
          have s3 := gs.b1
          have s4 : (sAt M i).start ≤ 1024 := by have := gs.b2; have := gs.p1; omega
          have KA := Lib.hid (fun W (h : Only [] wD W) => K1.out W (HOD.out.trans h) ((sAt M i).start * 256 + (k : Int) * c.size) (by unfold I64; omega))
          rw [HG.out.tk_obj HIM.out (by rw [HLN.out]; exact hlk)] at KA
          have hbit := gs.bits k (by rw [HLN.out]; exact hlk)
          have HSUM : Hid (((sAt M i).st.take (k + 1)).sum = ((sAt M i).st.take k).sum + (sAt M i).st.getD k 0) := sum_take1 _ _ (by rw [HLN.out]; exact hlk)
          have HO2 := Lib.hid ho
          clear gs
          generalize hbv : (sAt M i).st.getD k 0 = bv at *
          generalize (sAt M i).start = st at *
          rcases hbit with rfl | rfl
          · go_wp2_with (go_at_call 20; with_reducible refine Grew.use CO.out (fun wE hoE => ?_); obtain ⟨z0, oE⟩ := HF.out wE hoE; have r0 := (HR.out wE (HO.out.trans oE)).1)
            have R0 := cell_after r0
            have Z0 := cell_after z0
            have KU := Lib.hid (fun u : After wE => KA.out u.w' ((HO.out.trans oE).trans u.ok))
            refine wp_region_grew (by kernel_rfl) (by kernel_rfl) ?_
            repeat (go_big_quiet_step (first | (go_at_call 39; exact Grew.g (KU.out _))))
            refine wpQuiet_nil ?_
            rintro _ ⟨u, rfl⟩
            go_wp2_with fail
            go_roundw
            case rel => exact ⟨k + 1, s, by omega, rfl, by go_num, oE.trans u.ok, by rw [HSUM.out, HS.out]; omega, by omega, by omega⟩
            case measure => simp [intOf]; omega
          · go_wp2_with (go_at_call 20; with_reducible refine Grew.use CO.out (fun wE hoE => ?_); obtain ⟨z0, oE⟩ := HF.out wE hoE; have r0 := (HR.out wE (HO.out.trans oE)).1)
            have R0 := cell_after r0
            have Z0 := cell_after z0
            have KU := Lib.hid (fun u : After wE => KA.out u.w' ((HO.out.trans oE).trans u.ok))
            refine wp_region_grew (by kernel_rfl) (by kernel_rfl) ?_
            repeat (go_big_quiet_step (first | (go_at_call 39; exact Grew.g (KU.out _))))
            refine wpQuiet_nil ?_
            rintro _ ⟨u, rfl⟩
            go_wp2_with fail
            go_roundw
            case rel => exact ⟨k + 1, s + 1, by omega, rfl, by go_num, oE.trans u.ok, by rw [HSUM.out, HS.out], by omega, by omega⟩
            case measure => simp [intOf]; omega
        · have d2 : decide ((k : Int) < ob) = false := decide_eq_false (by omega)
          obtain rfl : k = ln := by omega
          have hu := own_only HU.out ho (by simp)
          have hsw := (HO.out.trans ho).size
          have HO3 := Lib.hid ho
          have HSW := Lib.hid (show (sAt M i).many = s by rw [HMS.out, HS.out])
          have hsE := ho.size
          clear ho
          go_wp2_with (first
            | (go_at_call 20; with_reducible refine Grew.use CO.out (fun wE hoE => ?_); have hu2 := own_only hu hoE (by simp); have hsz2 := hoE.size; clear hu)
            | (at_builtin; refine wpList_append_own _ rfl (.tmp 46) (.tmp 48) 25 rfl wD.heap.size 3 i0 (.int .i64 0) 1 8 Try.underlying25 hi hz0 hz1 hz2 rfl (by decide) _ _ _ rfl (hu2.alloc _) ⟨wE.heap.size, 0, none⟩ 1 1 [.int .i64 s] rfl rfl (cell_new1 wE _ _) (by simp; rfl) (by unfold maxLen; omega) (by omega) (by simp; omega) ?_; intro v1 w3 hown3 hg3 _))
          go_roundw
          case rel => exact ⟨i + 1, by omega, by go_num, ((((HO.out.trans HO3.out).trans hoE).alloc _).grown hg3 (fun b hb => .inr (own_base hu2 b hb))), by rw [HTS.out, HSW.out, List.map_append]; exact hown3⟩
          case measure => simp [intOf]; omega
    · have e : i = N := by omega
      subst e
      have d1 : decide ((i : Int) < i) = false := decide_eq_false (by omega)
      have HOW := Lib.hid hown
      clear hown
      go_wp2_with fail
      go_ret
      refine ⟨_, rfl, HOD.out.trans ho, ?_⟩
      have := own_mono HOW.out HOD.out.size
      rw [HN.out] at this ⊢
      exact this
end Go.Proofs.Ytlmjelcnldlagaa
