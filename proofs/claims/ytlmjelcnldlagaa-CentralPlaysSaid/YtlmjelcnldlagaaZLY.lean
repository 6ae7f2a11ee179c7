/- CentralFullest, walked. -/
import Derived.Test.YtlmjelcnldlagaaZLX
set_option linter.unusedVariables false
set_option linter.unusedSimpArgs false
namespace Go.Proofs.Ytlmjelcnldlagaa
open Go.RowKit

def bI : Option Nat → Int
  | none => -1
  | some b => b
/-- The cells of a row of ints. -/
theorem own_int {w : World} {base n g cp : Nat} {l : List Int} (h : w.ownsRow base 3 1 (.slice (some ⟨g, 0, none⟩) n cp) n (l.map (Value.int .i64))) {j : Nat} (hj : j < n) : w.cell? ⟨g, j, none⟩ = some (.int .i64 (l.getD j 0)) := by
  obtain ⟨A, c, e, hr, _⟩ := own_reads h
  injection e with e1 _ _
  obtain ⟨ad, e2, hc⟩ := hr.2 (by omega)
  rw [← e1] at e2
  injection e2 with e2
  subst e2
  have := hc j hj
  rwa [add_plain] at this
theorem bestTo_full {M : List Sp} {k : Nat} (h : bestTo M k = none) (j : Nat) (hj : j < k) : ¬ (sAt M j).many < (sAt M j).st.length := by
  induction k with
  | zero => omega
  | succ k ih =>
    rw [bestTo] at h
    cases h1 : bestTo M k with
    | none =>
      rw [h1] at h
      simp only at h
      split at h
      · cases h
      · rename_i h2
        by_cases e : j = k
        · subst e; exact h2
        · exact ih h1 (by omega)
    | some b =>
      rw [h1] at h
      simp only at h
      split at h <;> cases h
theorem GoodL.room_full {c : Cl} {M : List Sp} (hg : GoodL c M) (h : bestTo M M.length = none) : roomOf M = 0 := by
  have key : ∀ k, k ≤ M.length → roomTo M k = 0 := by
    intro k
    induction k with
    | zero => intro _; rfl
    | succ k ih =>
      intro hk
      rw [roomTo, ih (by omega)]
      have h1 := bestTo_full h k (by omega)
      have h2 := (hg.sp k (by omega)).1.many
      omega
  exact key _ (Nat.le_refl _)
theorem takes1_none {M : List Sp} (h : bestTo M M.length = none) : takesTo M 1 = ([], M) := by
  have : one7 M = ((0, false), M) := by unfold one7; rw [h]
  show (if (one7 (takesTo M 0).2).1.2 = true then _ else takesTo M 0) = _
  rw [show (takesTo M 0).2 = M from rfl, this, if_neg (by simp)]
  rfl
theorem takes1_some {M : List Sp} {b : Nat} (h : bestTo M M.length = some b) : takesTo M 1 = ([(sAt M b).take.1.1], M.set b (sAt M b).take.2) := by
  have : one7 M = (((sAt M b).take.1.1, true), M.set b (sAt M b).take.2) := by unfold one7; rw [h]
  show (if (one7 (takesTo M 0).2).1.2 = true then ((takesTo M 0).1 ++ [(one7 (takesTo M 0).2).1.1], (one7 (takesTo M 0).2).2) else takesTo M 0) = _
  rw [show (takesTo M 0).2 = M from rfl, this, if_pos rfl]
  rfl
/-- The object that is taken lies within its span. -/
theorem Sp.take_in {s : Sp} (hg : s.Good) (h : s.many < s.st.length) : s.start * 256 ≤ s.take.1.1 ∧ s.take.1.1 < s.start * 256 + s.pages * 256 := by
  obtain ⟨k, _, h2, _, h4⟩ := Sp.take_room hg h
  rw [h4]
  have a1 := hg.n2
  have a2 := hg.s1
  have a3 : ((k : Int) + 1) * s.size ≤ (s.st.length : Int) * s.size := Int.mul_le_mul_of_nonneg_right (by omega) (by omega)
  have a4 : 0 ≤ (k : Int) * s.size := Int.mul_nonneg (by omega) (by omega)
  rw [Int.add_mul] at a3
  show _ ≤ s.start * 256 + (k : Int) * s.size ∧ s.start * 256 + (k : Int) * s.size < _
  omega

set_option maxRecDepth 100000 in
set_option maxHeartbeats 8000000 in
theorem CentralFullest_walk (w : World) (cx cy cz : Int) (_ : I64 cx) (_ : I64 cy) (_ : I64 cz) (A : Option Addr) (n cp : Nat) (l : List Ac7) (hr : ReadsA w A n l) (hn : n ≤ 9223372036854775807) :
    Grew Try.prog 4 #[.agg #[.int .i64 cx, .int .i64 cy, .int .i64 cz], .slice A n cp] w (.bool true) := by
  have hlen := hr.1
  have o1 := (Only.refl [] w).alloc (.cells #[.int .i64 cx, .int .i64 cy, .int .i64 cz] 23)
  have bC := Blk.new w 23 #[.int .i64 cx, .int .i64 cy, .int .i64 cz]
  have CG := Lib.hid (great_any (w.alloc (.cells #[.int .i64 cx, .int .i64 cy, .int .i64 cz] 23)) A n cp l (hr.still o1) hn)
  have CM := Lib.hid (fun (h60 : ∀ j, j < n → (xAt l j).n ≤ 60) => lmadeOf_any (w.alloc (.cells #[.int .i64 cx, .int .i64 cy, .int .i64 cz] 23)) ⟨cx, cy, cz⟩ A n cp l (hr.still o1) hn h60)
  have HO1 := Lib.hid o1
  have HBC1 := Lib.hid bC
  cases hg : greatOf l with
  | true =>
    rw [hg] at CG
    clear hr hlen bC
    go_enter Try.func4, Try.ntmps4
    go_wp2_with (first | (go_at_call 13; with_reducible refine Still.use CG.out ?_) | (go_at_call 14; with_reducible refine Grew.use (alive_any _) (fun w5 ho5 => ?_)))
    go_ret
    exact ⟨rfl, HO1.out.trans ho5⟩
  | false =>
    rw [hg] at CG
    have h60 : ∀ j, j < n → (xAt l j).n ≤ 60 := fun j hj => (greatOf_false hg).2 j (by rw [hlen]; exact hj)
    have CM0 := Lib.hid (CM.out h60)
    clear hr hlen bC hg h60 CM
    by_cases hok : (⟨cx, cy, cz⟩ : Cl).ok
    · have HOK := Lib.hid hok
      clear hok
      go_enter Try.func4, Try.ntmps4
      go_wp2_with (first | (go_at_call 13; with_reducible refine Still.use CG.out ?_))
      refine CM0.out.mono ?_
      rintro e w2 ⟨ho2, h1, _⟩
      obtain ⟨P, bl, rfl, hst, hbl⟩ := h1 HOK.out
      generalize acts ⟨cx, cy, cz⟩ [] l n = M at *
      have o2 := HO1.out.trans ho2
      have b2 := HBC1.out.only ho2 (by simp)
      have HST := Lib.hid hst
      have HBL := Lib.hid hbl
      have HG := Lib.hid hst.goodL
      have hlen := hst.goodL.len
      have CS := Lib.hid (lSpans_st hst)
      have CT := Lib.hid (fun W (h : Only [] w2 W) => ltaken_any (hst.still h))
      clear h1 hst hbl CM0 CG
      go_wp2_with fail
      refine CS.out.mono ?_
      rintro e w3 ⟨v1, rfl, ho3, hown1⟩
      go_wp2_with fail
      refine (CT.out w3 ho3).mono ?_
      rintro e w4 ⟨v2, rfl, ho4, hown2⟩
      have HV1 := Lib.hid (own_only hown1 ho4 (by simp))
      have HV2 := Lib.hid hown2
      obtain ⟨A1, c1, rfl, _⟩ := own_slice hown1
      obtain ⟨A2, c2, rfl, _⟩ := own_slice hown2
      have b4 := b2.only (ho3.trans ho4) (by simp)
      have HB4 := Lib.hid b4
      have o4 := (o2.trans ho3).trans ho4
      have HS4 := Lib.hid (HST.out.still (ho3.trans ho4))
      have HOJ := Lib.hid (fun W => robj_any W cx cy cz HOK.out)
      have HOBN := Lib.hid (fun i (hi : i < M.length) => HG.out.objs hi)
      dsimp only at HOBN
      obtain ⟨N, hN⟩ : ∃ N, N = M.length := ⟨_, rfl⟩
      have HN := Lib.hid hN
      rw [← hN] at hlen ⊢
      clear hown1 hown2 b4 b2 CS CT hN
      generalize hob : cy * 256 / cx = ob at *
      clear hob
      go_wp2_with fail
      go_loopw [8, 9] (fun u t wr => ∃ k : Nat, k ≤ N ∧ u = .int .i64 (bI (bestTo M k)) ∧ t = .int .i64 k ∧ Only [] w4 wr) (fun _ t _ => N - (intOf t).toNat)
      case atStart => exact ⟨0, Nat.zero_le _, rfl, rfl, Only.refl _ _⟩
      case round =>
        obtain ⟨k, hk, rfl, rfl, ho⟩ := hrel
        by_cases hlt : k < N
        · have d1 : decide ((k : Int) < N) = true := decide_eq_true (by omega)
          have hkM : k < M.length := by rw [← HN.out]; exact hlt
          obtain ⟨g, cp', e1, _⟩ := own_form HV2.out (by omega)
          injection e1 with e1 _ e3
          subst e1 e3
          have r0 := own_int (own_only HV2.out ho (by simp)) hkM
          rw [takenTo_at _ _ _ hkM] at r0
          have bC := HB4.out.only ho (by simp)
          have R0 := cell_after r0
          have X0 := cell_after (bC.cell_ 0 rfl)
          have X1 := cell_after (bC.cell_ 1 rfl)
          have X2 := cell_after (bC.cell_ 2 rfl)
          have hobn := HOBN.out k hkM
          have COU := Lib.hid (fun u : After wr => HOJ.out u.w')
          have hbk : ∀ b, bestTo M k = some b → wr.cell? ⟨g, b, none⟩ = some (.int .i64 (sAt M b).many) ∧ b < k := fun b hb => by
            have := (bestTo_lt _ _ _ hb).1
            have r := own_int (own_only HV2.out ho (by simp)) (show b < M.length by omega)
            rw [takenTo_at _ _ _ (by omega)] at r
            exact ⟨r, this⟩
          clear bC hkM
          cases hb : bestTo M k with
          | none =>
            unfold bI
            by_cases h1 : (sAt M k).many < (sAt M k).st.length
            · have HB := Lib.hid (bestTo_first hb h1)
              have d2 : decide ((sAt M k).many < ob) = true := decide_eq_true (by omega)
              clear hb h1 hbk r0
              generalize (sAt M k).many = mk at *
              go_wp2_with fail
              refine wp_region_grew (by kernel_rfl) (by kernel_rfl) ?_
              repeat (go_big_quiet_step (first | (go_at_call 20; exact Grew.g (COU.out _))))
              refine wpQuiet_nil ?_
              rintro _ ⟨u, rfl⟩
              go_wp2_with fail
              go_roundw
              case rel => exact ⟨k + 1, by omega, by rw [HB.out] <;> rfl, by go_num, ho.trans u.ok⟩
              case measure => simp [intOf]; omega
            · have HB := Lib.hid (bestTo_none hb h1)
              have d2 : decide ((sAt M k).many < ob) = false := decide_eq_false (by omega)
              clear hb h1 hbk r0
              generalize (sAt M k).many = mk at *
              go_wp2_with fail
              refine wp_region_grew (by kernel_rfl) (by kernel_rfl) ?_
              repeat (go_big_quiet_step (first | (go_at_call 20; exact Grew.g (COU.out _))))
              refine wpQuiet_nil ?_
              rintro _ ⟨u, rfl⟩
              go_wp2_with fail
              go_roundw
              case rel => exact ⟨k + 1, by omega, by rw [HB.out] <;> rfl, by go_num, ho.trans u.ok⟩
              case measure => simp [intOf]; omega
          | some b =>
            obtain ⟨rb, hbk'⟩ := hbk b hb
            have RB := cell_after rb
            have db : decide ((b : Int) < 0) = false := decide_eq_false (by omega)
            unfold bI
            by_cases h1 : (sAt M k).many < (sAt M k).st.length
            · have d2 : decide ((sAt M k).many < ob) = true := decide_eq_true (by omega)
              by_cases h2 : (sAt M b).many < (sAt M k).many
              · have HB := Lib.hid (bestTo_more hb h1 h2)
                have d3 : decide ((sAt M b).many < (sAt M k).many) = true := decide_eq_true h2
                clear hb h1 h2 hbk r0 rb
                generalize (sAt M k).many = mk at *
                generalize (sAt M b).many = mb at *
                go_wp2_with fail
                refine wp_region_grew (by kernel_rfl) (by kernel_rfl) ?_
                repeat (go_big_quiet_step (first | (go_at_call 20; exact Grew.g (COU.out _))))
                refine wpQuiet_nil ?_
                rintro _ ⟨u, rfl⟩
                go_wp2_with fail
                go_roundw
                case rel => exact ⟨k + 1, by omega, by rw [HB.out] <;> rfl, by go_num, ho.trans u.ok⟩
                case measure => simp [intOf]; omega
              · have HB := Lib.hid (bestTo_keep hb (fun h => h2 h.2))
                have d3 : decide ((sAt M b).many < (sAt M k).many) = false := decide_eq_false h2
                clear hb h1 h2 hbk r0 rb
                generalize (sAt M k).many = mk at *
                generalize (sAt M b).many = mb at *
                go_wp2_with fail
                refine wp_region_grew (by kernel_rfl) (by kernel_rfl) ?_
                repeat (go_big_quiet_step (first | (go_at_call 20; exact Grew.g (COU.out _))))
                refine wpQuiet_nil ?_
                rintro _ ⟨u, rfl⟩
                go_wp2_with fail
                go_roundw
                case rel => exact ⟨k + 1, by omega, by rw [HB.out] <;> rfl, by go_num, ho.trans u.ok⟩
                case measure => simp [intOf]; omega
            · have HB := Lib.hid (bestTo_keep hb (fun h => h1 h.1))
              have d2 : decide ((sAt M k).many < ob) = false := decide_eq_false (by omega)
              clear hb h1 hbk r0 rb RB
              generalize (sAt M k).many = mk at *
              go_wp2_with fail
              refine wp_region_grew (by kernel_rfl) (by kernel_rfl) ?_
              repeat (go_big_quiet_step (first | (go_at_call 20; exact Grew.g (COU.out _))))
              refine wpQuiet_nil ?_
              rintro _ ⟨u, rfl⟩
              go_wp2_with fail
              go_roundw
              case rel => exact ⟨k + 1, by omega, by rw [HB.out] <;> rfl, by go_num, ho.trans u.ok⟩
              case measure => simp [intOf]; omega
        · have e : k = N := by omega
          subst e
          have d1 : decide ((k : Int) < k) = false := decide_eq_false (by omega)
          have CTK := Lib.hid (lTake_at (HS4.out.still ho) 1)
          cases hb : bestTo M k with
          | none =>
            unfold bI
            have hb' : bestTo M M.length = none := by rw [← HN.out]; exact hb
            have HT := Lib.hid (takes1_none hb')
            have HROOM := Lib.hid (HG.out.room_full hb')
            clear hb hb'
            go_wp2_with fail
            refine CTK.out.mono ?_
            rintro e w5 ⟨hoT, _, h1⟩
            obtain ⟨v3, rfl, hst5, hown3⟩ := h1 (by decide)
            rw [show takesTo M (Int.toNat 1) = ([], M) from HT.out] at hst5 hown3
            obtain ⟨A3, c3, rfl, _⟩ := own_slice hown3
            have CRM := Lib.hid (lRoom_st hst5)
            rw [HROOM.out] at CRM
            clear h1 hst5 hown3
            go_wp2_with (first | (go_at_call 22; with_reducible refine Grew.use CRM.out (fun w6 ho6 => ?_)) | (go_at_call 14; with_reducible refine Grew.use (alive_any _) (fun w7 ho7 => ?_)))
            go_ret
            exact ⟨rfl, ((((o4.trans ho).then_ hoT (fun b hb => .inr (by have := HBL.out b hb; have := HO1.out.size; omega))).trans ho6).trans ho7)⟩
          | some b =>
            unfold bI
            have hb' : bestTo M M.length = some b := by rw [← HN.out]; exact hb
            have HT := Lib.hid (takes1_some hb')
            obtain ⟨hbM, hroom⟩ := bestTo_lt _ _ _ hb'
            have gs := (HG.out.sp b hbM).1
            obtain ⟨t1, t2⟩ := Sp.take_in gs hroom
            have s1 := gs.b1
            have s2 := gs.b2
            have s3 := gs.p1
            have s4 := gs.p2
            have db : decide ((b : Int) < 0) = false := decide_eq_false (by omega)
            have hbN : b < k := by rw [HN.out]; exact hbM
            obtain ⟨g1, cp1, e1, _⟩ := own_form HV1.out (by omega)
            injection e1 with e1 _ e3
            subst e1 e3
            have HRW := Lib.hid (fun W (h : Only [] w4 W) => own_spans (own_only HV1.out h (by simp)) rfl hbM)
            clear hb hb' gs hroom
            generalize (sAt M b).take.1.1 = ad at *
            generalize hsq : (sAt M b).start = st at *
            generalize hpq : (sAt M b).pages = pg at *
            have HSQ := Lib.hid hsq
            have HPQ := Lib.hid hpq
            clear hsq hpq
            have q1 : ad.tdiv 256 = ad / 256 := Int.tdiv_eq_ediv_of_nonneg (by omega)
            have d5 : decide (st ≤ ad / 256) = true := decide_eq_true (by omega)
            have d6 : decide (ad / 256 < st + pg) = true := decide_eq_true (by omega)
            go_wp2_with fail
            refine CTK.out.mono ?_
            rintro e w5 ⟨hoT, _, h1⟩
            obtain ⟨v3, rfl, hst5, hown3⟩ := h1 (by decide)
            rw [show takesTo M (Int.toNat 1) = ([ad], M.set b (sAt M b).take.2) from HT.out] at hst5 hown3
            obtain ⟨g3, c3, rfl, _⟩ := own_form hown3 (by simp)
            have x3 : w5.cell? ⟨g3, 0, none⟩ = some (.int .i64 ad) := own_int hown3 (j := 0) (by simp)
            have HV15 := Lib.hid (own_only (own_only HV1.out ho (by simp)) hoT (fun x hx hxb => by
              have a1 := own_base HV1.out x hx
              have a2 := HST.out.lt x hxb
              omega))
            have o5 : Only [] w w5 := (o4.trans ho).then_ hoT (fun b hb => .inr (by have := HBL.out b hb; have := HO1.out.size; omega))
            clear h1 hst5 hown3 HRW
            obtain ⟨y0, y1⟩ := own_spans HV15.out rfl hbM
            rw [HSQ.out] at y0
            rw [HPQ.out] at y1
            go_wp2_with fail
            have Y0 := cell_after y0
            have Y1 := cell_after y1
            refine wp_region_grew (by kernel_rfl) (by kernel_rfl) ?_
            repeat (go_big_quiet_step (first | (go_at_call 14; exact Grew.g (alive_any _))))
            refine wpQuiet_nil ?_
            rintro _ ⟨u, rfl⟩
            go_wp2_with fail
            go_ret
            exact ⟨rfl, o5.trans u.ok⟩
    · have HOK := Lib.hid hok
      clear hok
      go_enter Try.func4, Try.ntmps4
      go_wp2_with (first | (go_at_call 13; with_reducible refine Still.use CG.out ?_))
      refine CM0.out.mono ?_
      rintro e w2 ⟨ho2, _, h1⟩
      rw [h1 HOK.out]
      clear h1
      go_wp2_with (first | (go_at_call 14; with_reducible refine Grew.use (alive_any _) (fun w5 ho5 => ?_)))
      go_ret
      exact ⟨rfl, (HO1.out.trans ho2).trans ho5⟩
end Go.Proofs.Ytlmjelcnldlagaa
