/- CentralFew, walked. -/
import Derived.Test.YtlmjelcnldlagaaZMB
set_option linter.unusedVariables false
set_option linter.unusedSimpArgs false
namespace Go.Proofs.Ytlmjelcnldlagaa
open Go.RowKit

set_option maxRecDepth 100000 in
set_option maxHeartbeats 8000000 in
theorem CentralFew_walk (w : World) (cx cy cz : Int) (_ : I64 cx) (_ : I64 cy) (_ : I64 cz) (B : Option Addr) (nb cb : Nat) (o : List Int) (hro : ReadsI w B nb o) (hio : ∀ j, j < nb → I64 (iAt o j)) (hcb : nb ≤ cb) (hnb : nb ≤ 9223372036854775807) (a : Int) (ha : 0 ≤ a ∧ a ≤ 255) :
    Grew Try.prog 5 #[.agg #[.int .i64 cx, .int .i64 cy, .int .i64 cz], .slice B nb cb, .int .u8 a] w (.bool true) := by
  have o1 := (Only.refl [] w).alloc (.cells #[.int .i64 cx, .int .i64 cy, .int .i64 cz] 23)
  have bC := Blk.new w 23 #[.int .i64 cx, .int .i64 cy, .int .i64 cz]
  have CM := Lib.hid (lmadeOf_any (w.alloc (.cells #[.int .i64 cx, .int .i64 cy, .int .i64 cz] 23)) ⟨cx, cy, cz⟩ none 0 0 [] (ReadsA.none _) (by omega) (fun j hj => absurd hj (by omega)))
  have HO1 := Lib.hid o1
  have HBC1 := Lib.hid bC
  have HRO := Lib.hid hro
  have HIO := Lib.hid hio
  obtain ⟨m, hm, hm79⟩ : ∃ m : Nat, a.tmod 80 = m ∧ m ≤ 79 := by
    refine ⟨(a.tmod 80).toNat, ?_, ?_⟩
    · rw [Int.tmod_eq_emod_of_nonneg (by omega)]; omega
    · rw [Int.tmod_eq_emod_of_nonneg (by omega)]; omega
  clear hro hio bC
  by_cases hnb40 : 40 < nb
  · have d0 : decide ((40 : Int) < (nb : Int)) = true := decide_eq_true (by omega)
    have d0' : decide (40 < nb) = true := decide_eq_true hnb40
    go_enter Try.func5, Try.ntmps5
    go_wp2_with (first | (go_at_call 14; with_reducible refine Grew.use (alive_any _) (fun w5 ho5 => ?_)))
    go_ret
    exact ⟨rfl, HO1.out.trans ho5⟩
  have d0 : decide ((40 : Int) < (nb : Int)) = false := decide_eq_false (by omega)
  have d0' : decide (40 < nb) = false := decide_eq_false hnb40
  by_cases hok : (⟨cx, cy, cz⟩ : Cl).ok
  · have HOK := Lib.hid hok
    clear hok
    go_enter Try.func5, Try.ntmps5
    go_wp2_with fail
    with_reducible refine Calls.mono CM.out ?_
    rintro e w2 ⟨ho2, h1, _⟩
    obtain ⟨P, bl, rfl, hst, hbl⟩ := h1 HOK.out
    have HOJ := Lib.hid (fun W => robj_any W cx cy cz HOK.out)
    have HOBN := Lib.hid (fun (M : List Sp) (HG : GoodL ⟨cx, cy, cz⟩ M) i (hi : i < M.length) => HG.objs hi)
    dsimp only at HOBN
    have HST0 : Hid (ListSt w2 P bl ⟨cx, cy, cz⟩ [] ∧ ∀ b ∈ bl, w.heap.size ≤ b) := Lib.hid ⟨hst, fun b hb => Nat.le_trans HO1.out.size (hbl b hb)⟩
    have HNI : Hid (w.heap.size ∉ bl) := Lib.hid (fun hb => by
      have h1 := hbl _ hb
      have h2 := HBC1.out.lt
      omega)
    have HO2 := Lib.hid ho2
    have HB2 := Lib.hid (HBC1.out.only ho2 (by simp))
    have HOW2 := Lib.hid (HO1.out.trans ho2)
    generalize hob : cy * 256 / cx = ob at *
    clear h1 hst hbl CM HBC1 hob ho2
    go_wp2_with fail
    go_loopw [8] (fun t wr => ∃ (k : Nat) (bl : List Nat) (M : List Sp), k ≤ nb ∧ t = .int .i64 k ∧ Only [] w wr ∧ Blk wr w.heap.size 23 #[.int .i64 cx, .int .i64 cy, .int .i64 cz] ∧ ListSt wr P bl ⟨cx, cy, cz⟩ M ∧ AZ M ∧ (∀ b ∈ bl, w.heap.size ≤ b) ∧ w.heap.size ∉ bl) (fun t _ => nb - (intOf t).toNat)
    case atStart => exact ⟨0, bl, [], Nat.zero_le _, rfl, HOW2.out, HB2.out, HST0.out.1, fun s hs => absurd hs (by simp), HST0.out.2, HNI.out⟩
    case round =>
      obtain ⟨k, bl, M, hk, rfl, ho, hB, hst, haz, hbl, hni⟩ := hrel
      by_cases hlt : k < nb
      · have d1 : decide ((k : Int) < nb) = true := decide_eq_true (by omega)
        obtain ⟨ad, rfl, hc⟩ := (HRO.out.still ho).2 (by omega)
        have x0 : wr.cell? (ad.add k) = some (.int .i64 (iAt o k)) := hc k hlt
        have CA := Lib.hid (lAdd_at hst (iAt o k) (HIO.out k hlt))
        have HAZ := Lib.hid (haz.add ⟨cx, cy, cz⟩ (iAt o k))
        have HBL := Lib.hid hbl
        have HNB := Lib.hid hni
        have HBB := Lib.hid hB
        clear hst haz hbl hc hni hB
        generalize iAt o k = x at *
        go_wp2_with fail
        with_reducible refine Calls.mono CA.out ?_
        rintro e w3 ⟨rfl, hT⟩
        have hlt3 := HBB.out.lt
        have hB3 := HBB.out.only hT.1 HNB.out
        obtain ⟨bl3, hst3, hbl3⟩ := hT.2
        have ho3 : Only [] w w3 := ho.then_ hT.1 (fun b hb => .inr (HBL.out b hb))
        have hni3 : w.heap.size ∉ bl3 := fun hb => by
          rcases hbl3 _ hb with h | h
          · exact HNB.out h
          · omega
        have hbl3' : ∀ b ∈ bl3, w.heap.size ≤ b := fun b hb => by
          rcases hbl3 b hb with h | h
          · exact HBL.out b h
          · exact Nat.le_trans ho.size h
        go_wp2_with fail
        go_roundw
        case rel => exact ⟨k + 1, bl3, _, by omega, by go_num, ho3, hB3, hst3, HAZ.out, hbl3', hni3⟩
        case measure => simp [intOf]; omega
      · have e : k = nb := by omega
        subst e
        have d1 : decide ((k : Int) < k) = false := decide_eq_false (by omega)
        have HSTA : Hid (Only [] w wr ∧ Blk wr w.heap.size 23 #[.int .i64 cx, .int .i64 cy, .int .i64 cz] ∧ ListSt wr P bl ⟨cx, cy, cz⟩ M ∧ Few M ∧ (∀ b ∈ bl, w.heap.size ≤ b) ∧ w.heap.size ∉ bl) := Lib.hid ⟨ho, hB, hst, haz.few, hbl, hni⟩
        clear ho hB hst haz hbl hni HST0 HO2 HB2 HOW2 HNI
        rename_i w3
        go_wp2_with fail
        go_loopw [9] (fun t wr => ∃ (k : Nat) (bl : List Nat) (M : List Sp), k ≤ m ∧ t = .int .i64 k ∧ Only [] w wr ∧ Blk wr w.heap.size 23 #[.int .i64 cx, .int .i64 cy, .int .i64 cz] ∧ ListSt wr P bl ⟨cx, cy, cz⟩ M ∧ Few M ∧ (∀ b ∈ bl, w.heap.size ≤ b) ∧ w.heap.size ∉ bl) (fun t _ => m - (intOf t).toNat)
        case atStart =>
          obtain ⟨a1, a2, a3, a4, a5, a6⟩ := HSTA.out
          exact ⟨0, bl, M, Nat.zero_le _, rfl, a1, a2, a3, a4, a5, a6⟩
        case round =>
          clear HSTA
          obtain ⟨i, bl, M, hi, rfl, ho, hB, hst, hfew, hbl, hni⟩ := hrel
          by_cases hlt2 : i < m
          · have d2 : decide ((i : Int) < m) = true := decide_eq_true (by omega)
            have HG := Lib.hid hst.goodL
            have CTK := Lib.hid (lTake_at hst 1)
            have HBL := Lib.hid hbl
            have HNB := Lib.hid hni
            have HBB := Lib.hid hB
            have HFEW := Lib.hid hfew
            have HO := Lib.hid ho
            clear hst hbl hni hB hfew ho
            cases hb : bestTo M M.length with
            | none =>
              have HT := Lib.hid (takes1_none hb)
              have HROOM := Lib.hid (HG.out.room_full hb)
              clear hb
              go_wp2_with fail
              with_reducible refine Calls.mono CTK.out ?_
              rintro e w5 ⟨hoT, _, h1⟩
              obtain ⟨v3, rfl, hst5, hown3⟩ := h1 (by decide)
              rw [show takesTo M (Int.toNat 1) = ([], M) from HT.out] at hst5 hown3
              obtain ⟨A3, c3, rfl, _⟩ := own_slice hown3
              have CRM := Lib.hid (lRoom_st hst5)
              rw [HROOM.out] at CRM
              have HS5 := Lib.hid hst5
              have HB5 := Lib.hid (HBB.out.only hoT HNB.out)
              have HO5 : Hid (Only [] w w5) := Lib.hid (HO.out.then_ hoT (fun b hb => .inr (HBL.out b hb)))
              clear h1 hst5 hown3 hoT CTK HT HROOM
              go_wp2_with (first | (go_at_call 22; with_reducible refine Grew.use CRM.out (fun w6 ho6 => ?_)))
              have HS6 := Lib.hid (HS5.out.still ho6)
              have HB6 := Lib.hid (HB5.out.only ho6 (by simp))
              have HO6 := Lib.hid (HO5.out.trans ho6)
              clear ho6 HS5 HB5 HO5 CRM
              have CTN := Lib.hid (ltaken_any HS6.out)
              have hlen := HS6.out.goodL.len
              go_wp2_with fail
              with_reducible refine Calls.mono CTN.out ?_
              rintro e w7 ⟨v4, rfl, ho7, hown4⟩
              obtain ⟨A4, c4, rfl, _⟩ := own_slice hown4
              have HV4 := Lib.hid hown4
              have HS7 := Lib.hid (HS6.out.still ho7)
              have HG7 := Lib.hid HS7.out.goodL
              have HB7 := Lib.hid (HB6.out.only ho7 (by simp))
              have HO7 := Lib.hid (HO6.out.trans ho7)
              obtain ⟨N, hN⟩ : ∃ N, N = M.length := ⟨_, rfl⟩
              have HN := Lib.hid hN
              rw [← hN] at hlen ⊢
              clear hown4 ho7 HS6 HB6 HO6 CTN hN
              go_wp2_with fail
              go_loopw [12, 14] (fun u t wr => ∃ k : Nat, k ≤ N ∧ u = .int .i64 (begunTo M k : Nat) ∧ t = .int .i64 k ∧ Only [] w7 wr) (fun _ t _ => N - (intOf t).toNat)
              case atStart => exact ⟨0, Nat.zero_le _, rfl, rfl, Only.refl _ _⟩
              case round =>
                obtain ⟨k, hk, rfl, rfl, ho⟩ := hrel
                have hbk := begunTo_le M k
                by_cases hlt3 : k < N
                · have d3 : decide ((k : Int) < N) = true := decide_eq_true (by omega)
                  have hkM : k < M.length := by rw [← HN.out]; exact hlt3
                  obtain ⟨g, cp', e1, _⟩ := own_form HV4.out (by omega)
                  injection e1 with e1 _ e3
                  subst e1 e3
                  have r0 := own_int (own_only HV4.out ho (by simp)) hkM
                  rw [takenTo_at _ _ _ hkM] at r0
                  have hobn := HOBN.out M HG7.out k hkM
                  have bC := HB7.out.only ho (by simp)
                  have R0 := cell_after r0
                  have X0 := cell_after (bC.cell_ 0 rfl)
                  have X1 := cell_after (bC.cell_ 1 rfl)
                  have X2 := cell_after (bC.cell_ 2 rfl)
                  have COU := Lib.hid (fun u : After wr => HOJ.out u.w')
                  have HNX : Hid (begunTo M (k + 1) = if (sAt M k).begun then begunTo M k + 1 else begunTo M k) := rfl
                  clear bC hkM
                  by_cases g1 : 0 < (sAt M k).many
                  · have d4 : decide (0 < (sAt M k).many) = true := decide_eq_true g1
                    by_cases g2 : (sAt M k).many < (sAt M k).st.length
                    · have d5 : decide ((sAt M k).many < ob) = true := decide_eq_true (by omega)
                      rw [if_pos ⟨g1, g2⟩] at HNX
                      clear g1 g2 hobn r0
                      generalize (sAt M k).many = mk at *
                      generalize begunTo M k = bk at *
                      go_wp2_with fail
                      refine wp_region_grew (by kernel_rfl) (by kernel_rfl) ?_
                      repeat (go_big_quiet_step (first | (go_at_call 20; exact Grew.g (COU.out _))))
                      refine wpQuiet_nil ?_
                      rintro _ ⟨u, rfl⟩
                      go_wp2_with fail
                      go_roundw
                      case rel => exact ⟨k + 1, by omega, by rw [HNX.out]; go_num, by go_num, ho.trans u.ok⟩
                      case measure => simp [intOf]; omega
                    · have d5 : decide ((sAt M k).many < ob) = false := decide_eq_false (by omega)
                      rw [if_neg (fun h => g2 h.2)] at HNX
                      clear g1 g2 hobn r0
                      generalize (sAt M k).many = mk at *
                      generalize begunTo M k = bk at *
                      go_wp2_with fail
                      refine wp_region_grew (by kernel_rfl) (by kernel_rfl) ?_
                      repeat (go_big_quiet_step (first | (go_at_call 20; exact Grew.g (COU.out _))))
                      refine wpQuiet_nil ?_
                      rintro _ ⟨u, rfl⟩
                      go_wp2_with fail
                      go_roundw
                      case rel => exact ⟨k + 1, by omega, by rw [HNX.out], by go_num, ho.trans u.ok⟩
                      case measure => simp [intOf]; omega
                  · have d4 : decide (0 < (sAt M k).many) = false := decide_eq_false g1
                    rw [if_neg (fun h => g1 h.1)] at HNX
                    clear g1 hobn r0
                    generalize (sAt M k).many = mk at *
                    generalize begunTo M k = bk at *
                    go_wp2_with fail
                    refine wp_region_grew (by kernel_rfl) (by kernel_rfl) ?_
                    repeat (go_big_quiet_step (first | (go_at_call 20; exact Grew.g (COU.out _))))
                    refine wpQuiet_nil ?_
                    rintro _ ⟨u, rfl⟩
                    go_wp2_with fail
                    go_roundw
                    case rel => exact ⟨k + 1, by omega, by rw [HNX.out], by go_num, ho.trans u.ok⟩
                    case measure => simp [intOf]; omega
                · have e : k = N := by omega
                  subst e
                  have d3 : decide ((k : Int) < k) = false := decide_eq_false (by omega)
                  have hle : begunTo M k ≤ 1 := by
                    have := (begunTo_few HFEW.out k (by rw [HN.out]; exact Nat.le_refl _)).1
                    exact this
                  have d6 : decide ((1 : Int) < (begunTo M k : Nat)) = false := decide_eq_false (by omega)
                  have d6' : decide (1 < begunTo M k) = false := decide_eq_false (by omega)
                  generalize begunTo M k = bk at *
                  go_wp2_with fail
                  go_roundw
                  case rel => exact ⟨i + 1, bl, M, by omega, by go_num, HO7.out.trans ho, HB7.out.only ho (by simp), HS7.out.still ho, HFEW.out, HBL.out, HNB.out⟩
                  case measure => simp [intOf]; omega
            | some b =>
              have HT := Lib.hid (takes1_some hb)
              have HF2 := Lib.hid (Few.take HG.out HFEW.out hb)
              clear hb
              generalize (sAt M b).take.1.1 = ad at *
              generalize M.set b (sAt M b).take.2 = M2 at *
              go_wp2_with fail
              with_reducible refine Calls.mono CTK.out ?_
              rintro e w6 ⟨hoT, _, h1⟩
              obtain ⟨v3, rfl, hst5, hown3⟩ := h1 (by decide)
              rw [show takesTo M (Int.toNat 1) = ([ad], M2) from HT.out] at hst5 hown3
              obtain ⟨A3, c3, rfl, _⟩ := own_slice hown3
              have HS6 := Lib.hid hst5
              have HB6 := Lib.hid (HBB.out.only hoT HNB.out)
              have HO6 : Hid (Only [] w w6) := Lib.hid (HO.out.then_ hoT (fun b hb => .inr (HBL.out b hb)))
              clear h1 hst5 hown3 hoT CTK HT HFEW HG
              have HFEW := Lib.hid HF2.out
              clear HF2 HBB HO
              have CTN := Lib.hid (ltaken_any HS6.out)
              have hlen := HS6.out.goodL.len
              go_wp2_with fail
              with_reducible refine Calls.mono CTN.out ?_
              rintro e w7 ⟨v4, rfl, ho7, hown4⟩
              obtain ⟨A4, c4, rfl, _⟩ := own_slice hown4
              have HV4 := Lib.hid hown4
              have HS7 := Lib.hid (HS6.out.still ho7)
              have HG7 := Lib.hid HS7.out.goodL
              have HB7 := Lib.hid (HB6.out.only ho7 (by simp))
              have HO7 := Lib.hid (HO6.out.trans ho7)
              obtain ⟨N, hN⟩ : ∃ N, N = M2.length := ⟨_, rfl⟩
              have HN := Lib.hid hN
              rw [← hN] at hlen ⊢
              clear hown4 ho7 HS6 HB6 HO6 CTN hN
              go_wp2_with fail
              go_loopw [12, 14] (fun u t wr => ∃ k : Nat, k ≤ N ∧ u = .int .i64 (begunTo M2 k : Nat) ∧ t = .int .i64 k ∧ Only [] w7 wr) (fun _ t _ => N - (intOf t).toNat)
              case atStart => exact ⟨0, Nat.zero_le _, rfl, rfl, Only.refl _ _⟩
              case round =>
                obtain ⟨k, hk, rfl, rfl, ho⟩ := hrel
                have hbk := begunTo_le M2 k
                by_cases hlt3 : k < N
                · have d3 : decide ((k : Int) < N) = true := decide_eq_true (by omega)
                  have hkM : k < M2.length := by rw [← HN.out]; exact hlt3
                  obtain ⟨g, cp', e1, _⟩ := own_form HV4.out (by omega)
                  injection e1 with e1 _ e3
                  subst e1 e3
                  have r0 := own_int (own_only HV4.out ho (by simp)) hkM
                  rw [takenTo_at _ _ _ hkM] at r0
                  have hobn := HOBN.out M2 HG7.out k hkM
                  have bC := HB7.out.only ho (by simp)
                  have R0 := cell_after r0
                  have X0 := cell_after (bC.cell_ 0 rfl)
                  have X1 := cell_after (bC.cell_ 1 rfl)
                  have X2 := cell_after (bC.cell_ 2 rfl)
                  have COU := Lib.hid (fun u : After wr => HOJ.out u.w')
                  have HNX : Hid (begunTo M2 (k + 1) = if (sAt M2 k).begun then begunTo M2 k + 1 else begunTo M2 k) := rfl
                  clear bC hkM
                  by_cases g1 : 0 < (sAt M2 k).many
                  · have d4 : decide (0 < (sAt M2 k).many) = true := decide_eq_true g1
                    by_cases g2 : (sAt M2 k).many < (sAt M2 k).st.length
                    · have d5 : decide ((sAt M2 k).many < ob) = true := decide_eq_true (by omega)
                      rw [if_pos ⟨g1, g2⟩] at HNX
                      clear g1 g2 hobn r0
                      generalize (sAt M2 k).many = mk at *
                      generalize begunTo M2 k = bk at *
                      go_wp2_with fail
                      refine wp_region_grew (by kernel_rfl) (by kernel_rfl) ?_
                      repeat (go_big_quiet_step (first | (go_at_call 20; exact Grew.g (COU.out _))))
                      refine wpQuiet_nil ?_
                      rintro _ ⟨u, rfl⟩
                      go_wp2_with fail
                      go_roundw
                      case rel => exact ⟨k + 1, by omega, by rw [HNX.out]; go_num, by go_num, ho.trans u.ok⟩
                      case measure => simp [intOf]; omega
                    · have d5 : decide ((sAt M2 k).many < ob) = false := decide_eq_false (by omega)
                      rw [if_neg (fun h => g2 h.2)] at HNX
                      clear g1 g2 hobn r0
                      generalize (sAt M2 k).many = mk at *
                      generalize begunTo M2 k = bk at *
                      go_wp2_with fail
                      refine wp_region_grew (by kernel_rfl) (by kernel_rfl) ?_
                      repeat (go_big_quiet_step (first | (go_at_call 20; exact Grew.g (COU.out _))))
                      refine wpQuiet_nil ?_
                      rintro _ ⟨u, rfl⟩
                      go_wp2_with fail
                      go_roundw
                      case rel => exact ⟨k + 1, by omega, by rw [HNX.out], by go_num, ho.trans u.ok⟩
                      case measure => simp [intOf]; omega
                  · have d4 : decide (0 < (sAt M2 k).many) = false := decide_eq_false g1
                    rw [if_neg (fun h => g1 h.1)] at HNX
                    clear g1 hobn r0
                    generalize (sAt M2 k).many = mk at *
                    generalize begunTo M2 k = bk at *
                    go_wp2_with fail
                    refine wp_region_grew (by kernel_rfl) (by kernel_rfl) ?_
                    repeat (go_big_quiet_step (first | (go_at_call 20; exact Grew.g (COU.out _))))
                    refine wpQuiet_nil ?_
                    rintro _ ⟨u, rfl⟩
                    go_wp2_with fail
                    go_roundw
                    case rel => exact ⟨k + 1, by omega, by rw [HNX.out], by go_num, ho.trans u.ok⟩
                    case measure => simp [intOf]; omega
                · have e : k = N := by omega
                  subst e
                  have d3 : decide ((k : Int) < k) = false := decide_eq_false (by omega)
                  have hle : begunTo M2 k ≤ 1 := by
                    have := (begunTo_few HFEW.out k (by rw [HN.out]; exact Nat.le_refl _)).1
                    exact this
                  have d6 : decide ((1 : Int) < (begunTo M2 k : Nat)) = false := decide_eq_false (by omega)
                  have d6' : decide (1 < begunTo M2 k) = false := decide_eq_false (by omega)
                  generalize begunTo M2 k = bk at *
                  go_wp2_with fail
                  go_roundw
                  case rel => exact ⟨i + 1, bl, M2, by omega, by go_num, HO7.out.trans ho, HB7.out.only ho (by simp), HS7.out.still ho, HFEW.out, HBL.out, HNB.out⟩
                  case measure => simp [intOf]; omega
          · have e : i = m := by omega
            subst e
            have d2 : decide ((i : Int) < i) = false := decide_eq_false (by omega)
            go_wp2_with (first | (go_at_call 14; with_reducible refine Grew.use (alive_any _) (fun w9 ho9 => ?_)))
            go_ret
            exact ⟨rfl, ho.trans ho9⟩
  · have HOK := Lib.hid hok
    clear hok
    go_enter Try.func5, Try.ntmps5
    go_wp2_with fail
    with_reducible refine Calls.mono CM.out ?_
    rintro e w2 ⟨ho2, _, h1⟩
    rw [h1 HOK.out]
    clear h1
    go_wp2_with (first | (go_at_call 14; with_reducible refine Grew.use (alive_any _) (fun w5 ho5 => ?_)))
    go_ret
    exact ⟨rfl, (HO1.out.trans ho2).trans ho5⟩
end Go.Proofs.Ytlmjelcnldlagaa
