/- The reference's list: Sweep. -/
import Derived.Test.YtlmjelcnldlagaaZMM
import Derived.Deep.AppendLies
set_option linter.unusedVariables false
set_option linter.unusedSimpArgs false
namespace Go.Proofs.Ytlmjelcnldlagaa
open Go.RowKit

theorem info_rp : (Try.prog.info? 99).map (fun i => (i.zero, i.size, i.bytes)) = some (some (.pointer none), 1, 8) := by kernel_rfl
theorem ptrs_append (l m : List En) : ptrs (l ++ m) = ptrs l ++ ptrs m := by simp [ptrs]
theorem only_row {w w' : World} {v : Value} {ob : Obj} (hg : (w.alloc ob).grownBy w' v.ownBlock) : Only v.ownBlock.toList w w' := ((Only.refl _ w).alloc ob).grown hg (fun b hb => .inl (Option.mem_toList.2 hb))
theorem Only.cell_at {w w' : World} (ho : Only [] w w') {a : Addr} {v : Value} (h : w.cell? a = some v) : w'.cell? a = some v := (ho.cell (World.block_lt_of_cell? w _ h) (by simp)).trans h

set_option maxRecDepth 100000 in
set_option maxHeartbeats 8000000 in
theorem qSweep_at {w : World} {P : Nat} {bl : List Nat} {c : Cl} {M : List Sp} (h : QSt w P bl c M) :
    Calls Try.prog 61 #[.pointer (some ⟨P, 0, none⟩)] w fun e w' => ∃ v, e = .returned v ∧ w'.ownsRow w.heap.size 37 2 v (zeroOf M).length (cellsR (zeroOf M)) ∧ QTurn w P bl w' c (keptOf M) := by
  have CM := Lib.hid (qmade_st h)
  obtain ⟨⟨A, L, hA, rfl, hI⟩, hlt0⟩ := h
  obtain ⟨ad, cp, rfl⟩ := hA.slice
  have HA := Lib.hid hA
  have HI := Lib.hid hI
  have HLT := Lib.hid hlt0
  have hn := hA.len
  obtain ⟨N, hN⟩ : ∃ N, N = L.length := ⟨_, rfl⟩
  rw [← hN] at hn
  have HN := Lib.hid hN
  obtain ⟨i0, hi, hz0, hz1, hz2⟩ := info_parts info_run
  obtain ⟨j0, hj, hy0, hy1, hy2⟩ := info_parts info_rp
  clear hA hI hlt0 hN
  go_enter Try.func61, Try.ntmps61
  go_wp2_with (first | (go_at_call 56; with_reducible refine Still.use CM.out ?_))
  go_loopw [3, 4, 5] (fun u v t wr => ∃ k : Nat, k ≤ N ∧ t = .int .i64 k ∧ Only [] w wr ∧ wr.ownsRow w.heap.size 37 2 u (zeroTo (spans L) k).length (cellsR (zeroTo (spans L) k)) ∧ wr.ownsRow w.heap.size 99 1 v (keptE L k).length (ptrs (keptE L k)) ∧ (∀ x, u.ownBlock = some x → v.ownBlock ≠ some x)) (fun _ _ t _ => N - (intOf t).toNat)
  case atStart => exact ⟨0, Nat.zero_le _, rfl, Only.refl _ _, World.ownsRow_nil _ _ _ _, World.ownsRow_nil _ _ _ _, fun x hx => by cases hx⟩
  case round =>
    obtain ⟨k, hk, rfl, ho, hown, hkep, hnu⟩ := hrel
    obtain ⟨Au, cu, rfl, _⟩ := own_slice hown
    obtain ⟨Av, cv, rfl, _⟩ := own_slice hkep
    have hr := HA.out.still ho
    have z3 := hr.blk.cell_ 3 rfl
    rw [← HN.out] at z3
    have HW := Lib.hid hown
    have HKP := Lib.hid hkep
    have HNU := Lib.hid hnu
    clear hnu
    by_cases hlt : k < N
    · have d1 : decide ((k : Int) < N) = true := decide_eq_true (by omega)
      have hkL : k < L.length := by rw [← HN.out]; exact hlt
      obtain ⟨g, cp', e1⟩ := hr.form (by omega)
      injection e1 with e1 _ e3
      subst e1 e3
      have q0 := own_ptrs hr.row rfl hkL
      have CT := Lib.hid (rTaken_at (hr.get hkL).1)
      have CR := Lib.hid (fun W (h1 : Only [] wr W) => rRun_at ((hr.get hkL).1.only h1 (by simp) (by simp)))
      have Z3 := Lib.hid (fun W (h1 : Only [] wr W) => h1.cell_at z3)
      have Q0 := Lib.hid (fun W (h1 : Only [] wr W) => h1.cell_at q0)
      have hzl := zeroTo_len (spans L) k
      have hkl := keptE_len L k
      have hsz := ho.size
      by_cases h0 : (eAt L k).s.many = 0
      · have d2 : ((eAt L k).s.many == 0) = true := by rw [h0]; rfl
        have HZS := Lib.hid (show zeroTo (spans L) (k + 1) = zeroTo (spans L) k ++ [((eAt L k).s.start, (eAt L k).s.pages)] by rw [zeroTo, sAt_spans, if_pos h0])
        have HKS := Lib.hid (show keptE L (k + 1) = keptE L k by rw [keptE, if_pos h0])
        obtain ⟨Z, hZ⟩ : ∃ Z, Z = zeroTo (spans L) k := ⟨_, rfl⟩
        obtain ⟨K, hK⟩ : ∃ K, K = keptE L k := ⟨_, rfl⟩
        rw [← hZ] at HZS HW hzl hown HNU
        rw [← hK] at HKS HKP hkl hkep HNU
        simp only [← hZ, ← hK]
        clear hr hkL h0 hZ hK hown hkep
        generalize (eAt L k).s.start = st at *
        generalize (eAt L k).s.pages = pg at *
        generalize (eAt L k).s.many = mn at *
        generalize (eAt L k).p = pp at *
        obtain ⟨nz, hnz⟩ : ∃ n, n = Z.length := ⟨_, rfl⟩
        rw [← hnz] at HW hzl HNU
        simp only [← hnz]
        have HNZ := Lib.hid hnz
        clear hnz
        go_wp2_with (first
          | (go_at_call 84; with_reducible refine Grew.use CT.out (fun w1 ho1 => ?_); have z4 := Z3.out w1 ho1; have q1 := Q0.out w1 ho1)
          | (go_at_call 89; with_reducible refine Grew.use (CR.out _ ho1) (fun w2 ho2 => ?_); have ho12 := ho1.trans ho2; have hown2 := own_only HW.out ho12 (by simp); have hsz2 := ho12.size)
          | (at_builtin; refine wpList_append_lies _ rfl _ _ 30 rfl w.heap.size 37 i0 (.agg #[.int .i64 0, .int .i64 0]) 2 16 Try.underlying30 hi hz0 hz1 hz2 rfl (by decide) _ _ _ rfl (hown2.alloc _) ⟨w2.heap.size, 0, none⟩ 1 1 [.int .i64 st, .int .i64 pg] rfl rfl (news_new w2 _ _) (by simp [Value.oneCell']) (by decide) (by unfold maxLen; omega) (by omega) (by simp; omega) _ rfl ?_; intro g1 c1 w3 hown3 hg3 hgl3 _))
        have o3 := only_row hg3
        have hkep3 := own_only (own_only HKP.out ho12 (by simp)) o3 (fun x hx hxl => HNU.out x (Option.mem_toList.1 hxl) hx)
        have hoF : Only [] w w3 := ((ho.trans ho12).then_ o3 (fun b hb => .inr (own_base hown2 b (Option.mem_toList.1 hb))))
        have hnu3 : ∀ x, (Value.slice (some ⟨g1, 0, none⟩) (nz + 1) c1).ownBlock = some x → (Value.slice Av K.length cv).ownBlock ≠ some x := fun x hx hv => by
          have e : g1 = x := by simpa [Value.ownBlock] using hx
          subst e
          rcases hgl3 with h | h
          · exact HNU.out _ h hv
          · have := own_lt HKP.out _ hv
            rw [World.size_alloc] at h
            omega
        go_roundw
        case rel => exact ⟨k + 1, by omega, by go_num, hoF, by rw [HZS.out, cellsR_append, List.length_append, ← HNZ.out]; exact hown3, by rw [HKS.out]; exact hkep3, hnu3⟩
        case measure => simp [intOf]; omega
      · have d2 : ((eAt L k).s.many == 0) = false := beq_eq_false_iff_ne.2 h0
        have HZS := Lib.hid (show zeroTo (spans L) (k + 1) = zeroTo (spans L) k by rw [zeroTo, sAt_spans, if_neg h0])
        have HKS := Lib.hid (show keptE L (k + 1) = keptE L k ++ [eAt L k] by rw [keptE, if_neg h0])
        obtain ⟨Z, hZ⟩ : ∃ Z, Z = zeroTo (spans L) k := ⟨_, rfl⟩
        obtain ⟨K, hK⟩ : ∃ K, K = keptE L k := ⟨_, rfl⟩
        rw [← hZ] at HZS HW hzl hown HNU
        rw [← hK] at HKS HKP hkl hkep HNU
        simp only [← hZ, ← hK]
        have HPT : Hid (ptrs (K ++ [eAt L k]) = ptrs K ++ [.pointer (some ⟨(eAt L k).p, 0, none⟩)]) := Lib.hid (ptrs_append _ _)
        clear hr hkL h0 hZ hK hown hkep
        generalize (eAt L k).s.many = mn at *
        generalize eAt L k = ek at *
        generalize ek.p = pp at *
        obtain ⟨nk, hnk⟩ : ∃ n, n = K.length := ⟨_, rfl⟩
        rw [← hnk] at HKP hkl HNU
        simp only [← hnk]
        have HNK := Lib.hid hnk
        clear hnk
        go_wp2_with (first
          | (go_at_call 84; with_reducible refine Grew.use CT.out (fun w1 ho1 => ?_); have z4 := Z3.out w1 ho1; have q1 := Q0.out w1 ho1; have hkep2 := own_only HKP.out ho1 (by simp); have hsz2 := ho1.size)
          | (at_builtin; refine wpList_append_lies _ rfl _ _ 95 rfl w.heap.size 99 j0 (.pointer none) 1 8 Try.underlying95 hj hy0 hy1 hy2 rfl (by decide) _ _ _ rfl (hkep2.alloc _) ⟨w1.heap.size, 0, none⟩ 1 1 [.pointer (some ⟨pp, 0, none⟩)] rfl rfl (cell_new1 w1 _ _) (by simp [Value.oneCell']) (by decide) (by unfold maxLen; omega) (by omega) (by simp; omega) _ rfl ?_; intro g1 c1 w3 hown3 hg3 hgl3 _))
        have o3 := only_row hg3
        have hown3' := own_only (own_only HW.out ho1 (by simp)) o3 (fun x hx hxl => HNU.out x hx (Option.mem_toList.1 hxl))
        have hoF : Only [] w w3 := ((ho.trans ho1).then_ o3 (fun b hb => .inr (own_base hkep2 b (Option.mem_toList.1 hb))))
        have hnu3 : ∀ x, (Value.slice Au Z.length cu).ownBlock = some x → (Value.slice (some ⟨g1, 0, none⟩) (nk + 1) c1).ownBlock ≠ some x := fun x hx hv => by
          have e : g1 = x := by simpa [Value.ownBlock] using hv
          subst e
          rcases hgl3 with h | h
          · exact HNU.out _ hx h
          · have := own_lt HW.out _ hx
            rw [World.size_alloc] at h
            omega
        go_roundw
        case rel => exact ⟨k + 1, by omega, by go_num, hoF, by rw [HZS.out]; exact hown3', by rw [HKS.out, HPT.out, List.length_append, ← HNK.out]; exact hown3, hnu3⟩
        case measure => simp [intOf]; omega
    · have e : k = N := by omega
      subst e
      have d1 : decide ((k : Int) < k) = false := decide_eq_false (by omega)
      have HB := Lib.hid hr.blk
      have zf := hr.blk.frozen 3
      have HO := Lib.hid ho
      clear hr hown hkep ho
      go_wp2_with fail
      go_ret
      have ho := HO.out
      have hA := HA.out
      have hPlt := hA.blk.lt
      have hkf : keptE L k = L.filter (fun e => e.s.many != 0) := by rw [HN.out, keptE_filter _ _ (Nat.le_refl _), List.take_of_length_le (Nat.le_refl _)]
      have hsub : ∀ e ∈ keptE L k, e ∈ L := fun e he => by rw [hkf] at he; exact (List.mem_filter.1 he).1
      have hnew : ∀ x, (Value.slice Av (keptE L k).length cv).ownBlock = some x → w.heap.size ≤ x := own_base HKP.out
      have oS : Only [P] wr (wr.setCell ⟨P, 3, none⟩ (.slice Av (keptE L k).length cv)) := (Only.refl [P] wr).setCell (.inl (by simp)) _
      have hoF : Only [P] w (wr.setCell ⟨P, 3, none⟩ (.slice Av (keptE L k).length cv)) := ho.of_nil.trans oS
      have hrow5 := own_only HKP.out oS (fun x hx hb => by simp at hb; subst hb; have := hnew _ hx; omega)
      refine ⟨_, rfl, ?_, hoF.mono (fun b hb => by simp at hb; subst hb; exact HI.out.p), P :: ((Value.slice Av (keptE L k).length cv).ownBlock.toList ++ bl), ⟨⟨.slice Av (keptE L k).length cv, keptE L k, ⟨HB.out.set_ 3 _, hA.one, own_mono hrow5 (Nat.zero_le _), fun e he => ?_, fun e he => ?_, fun e => ?_, ?_⟩, ?_, ?_⟩, fun b hb => ?_⟩, fun b hb => ?_⟩
      · have := own_only HW.out oS (fun x hx hb => by simp at hb; subst hb; have := own_base HW.out _ hx; omega)
        show World.ownsRow _ _ _ _ _ (zeroTo (spans L) (spans L).length).length (cellsR (zeroTo (spans L) (spans L).length))
        rw [spans_len, ← HN.out]
        exact this
      · have hn := hA.ne e (hsub e he)
        obtain ⟨h1, h2⟩ := hA.sp e (hsub e he)
        exact ⟨h1.only hoF (by simpa using hn.1) (by simpa using hn.2.1), h2⟩
      · have hn := hA.ne e (hsub e he)
        obtain ⟨h1, h2⟩ := hA.sp e (hsub e he)
        have a1 := h1.ltp
        have a2 := h1.ltq
        exact ⟨hn.1, hn.2.1, fun h => by have := hnew _ h; omega, fun h => by have := hnew _ h; omega⟩
      · have := hnew _ e; omega
      · rw [hkf]; exact hA.ap.filter _
      · rw [hkf, spans_filter]
      · exact ⟨by simp, fun b hb => by simp [hb], fun e he => by have := HI.out.e e (hsub e he); simp [this.1, this.2]⟩
      · simp only [List.mem_cons, List.mem_append, Option.mem_toList] at hb
        rcases hb with rfl | hb | hb
        · exact Nat.lt_of_lt_of_le hPlt hoF.size
        · exact own_lt hrow5 b hb
        · exact Nat.lt_of_lt_of_le (HLT.out b hb) hoF.size
      · simp only [List.mem_cons, List.mem_append, Option.mem_toList] at hb
        rcases hb with rfl | hb | hb
        · exact .inl HI.out.p
        · exact .inr (hnew b hb)
        · exact .inl hb
end Go.Proofs.Ytlmjelcnldlagaa
