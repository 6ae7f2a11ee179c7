/- The walk of SpaceStates. -/
import Derived.Test.YtmalmkccgjeboaaDoorWD
import Derived.Test.YtmalmkccgjeboaaDoorVT
set_option linter.unusedVariables false
set_option linter.unusedSimpArgs false
namespace Go.Proofs.YtmalmkccgjeboaaDoor
open Go.RowKit

theorem cnt_gap {st : Int → Int} {v : Int} {a : Nat} (d : Nat) (h : ∀ q : Nat, a ≤ q → q < a + d → st q ≠ v) : cntTo st v (a + d) = cntTo st v a := by
  induction d with
  | zero => rfl
  | succ d ih =>
    rw [← Nat.add_assoc]
    show cntTo st v (a + d) + (if st ((a + d : Nat) : Int) = v then 1 else 0) = _
    rw [ih (fun q h1 h2 => h q h1 (by omega)), if_neg (h (a + d) (by omega) (by omega))]
    rfl
theorem cnt_body {st : Int → Int} {v : Int} {a : Nat} (d : Nat) (h : ∀ q : Nat, a ≤ q → q < a + d → st q = v) : cntTo st v (a + d) = cntTo st v a + d := by
  induction d with
  | zero => rfl
  | succ d ih =>
    rw [← Nat.add_assoc]
    show cntTo st v (a + d) + (if st ((a + d : Nat) : Int) = v then 1 else 0) = _
    rw [ih (fun q h1 h2 => h q h1 (by omega)), if_pos (h (a + d) (by omega) (by omega))]
    omega
theorem mapTo_cnt {st : Int → Int} (h : ∀ i, st i = 0 ∨ st i = 1 ∨ st i = 2) (k : Nat) : mapTo st k = cntTo st 1 k + cntTo st 2 k := by
  induction k with
  | zero => rfl
  | succ k ih =>
    unfold mapTo cntTo
    rw [ih]
    rcases h k with e | e | e <;> rw [e] <;> simp <;> omega

/-- How often a page has been told. -/
def toldF (st : Int → Int) (s b : Int) (q : Nat) : Value := .int .i64 (if st q < s ∨ (st q = s ∧ (q : Int) < b) then 1 else 0)
/-- The sums. -/
def sumF (st : Int → Int) (n : Nat) (s b : Nat) (j : Nat) : Value := .int .i64 (if j < s then cntTo st j n else if j = s then cntTo st s b else 0)

theorem told_gap {st : Int → Int} {s a b : Int} (h : ∀ q : Nat, a ≤ q → (q : Int) < b → st q ≠ s) (hab : a ≤ b) (q : Nat) : toldF st s a q = toldF st s b q := by
  unfold toldF
  congr 1
  by_cases h1 : st q < s ∨ (st q = s ∧ (q : Int) < a)
  · rw [if_pos h1, if_pos (by omega)]
  · rw [if_neg h1, if_neg]
    rintro (h2 | ⟨h2, h3⟩)
    · exact h1 (.inl h2)
    · refine h q ?_ h3 h2
      have : ¬ ((q : Int) < a) := fun h4 => h1 (.inr ⟨h2, h4⟩)
      omega
theorem told_next {st : Int → Int} {s : Int} {n : Nat} {b : Int} (h : ∀ q : Nat, b ≤ q → q < n → st q ≠ s) (q : Nat) (hq : q < n) : toldF st s b q = toldF st (s + 1) 0 q := by
  unfold toldF
  congr 1
  by_cases h1 : st q < s ∨ (st q = s ∧ (q : Int) < b)
  · rw [if_pos h1, if_pos (by omega)]
  · rw [if_neg h1, if_neg]
    rintro (h2 | ⟨h2, h3⟩)
    · have h4 : st q = s := by omega
      refine h q ?_ hq h4
      have : ¬ ((q : Int) < b) := fun h5 => h1 (.inr ⟨h4, h5⟩)
      omega
    · omega
theorem told_step {st : Int → Int} {s : Int} {p : Nat} (h : st p = s) (q : Nat) : (if q = p then Value.int .i64 1 else toldF st s p q) = toldF st s ((p : Int) + 1) q := by
  unfold toldF
  by_cases e : q = p
  · subst e
    rw [if_pos rfl, if_pos (.inr ⟨h, by omega⟩)]
  · rw [if_neg e]
    congr 1
    by_cases h1 : st q < s ∨ (st q = s ∧ (q : Int) < p)
    · rw [if_pos h1, if_pos (by omega)]
    · rw [if_neg h1, if_neg]
      rintro (h2 | ⟨h2, h3⟩)
      · exact h1 (.inl h2)
      · exact h1 (.inr ⟨h2, by omega⟩)
theorem told_at {st : Int → Int} {s : Int} {p : Nat} (h : st p = s) : toldF st s p p = .int .i64 0 := by
  unfold toldF
  rw [if_neg]
  rintro (h2 | ⟨h2, h3⟩) <;> omega

set_option maxRecDepth 100000 in
set_option maxHeartbeats 8000000 in
theorem SpaceStates_walk (w : World) (hE : Env w) (pages : Int) (hp : 0 ≤ pages ∧ pages ≤ 255) (A : Option Addr) (n c : Nat) (l : List Ac) (hr : ReadsA w A n l) (hn : n ≤ 9223372036854775807) (a : Int) (i1 : I64 a) :
    Grew Tryd.prog 11 #[.int .u8 pages, .slice A n c, .int .i64 a] w (.bool true) := by
  have HE := Lib.hid hE
  have CG := Lib.hid (fun W => great_any W A n c hn)
  have CM := Lib.hid (lmade_any hE pages hp A n c l hr hn)
  clear hr hE
  by_cases hg : 40 < n
  · rw [decide_eq_true hg] at CG
    go_enter Tryd.func11, Tryd.ntmps11
    go_wp2_with (first | (go_at_call 13; with_reducible refine Still.use (CG.out _) ?_) | (go_at_call 14; with_reducible refine Grew.use (alive_any _ HE.out) (fun w5 ho5 => ?_)))
    go_ret
    exact ⟨rfl, ho5⟩
  rw [decide_eq_false hg] at CG
  go_enter Tryd.func11, Tryd.ntmps11
  go_wp2_with (first | (go_at_call 13; with_reducible refine Still.use (CG.out _) ?_))
  refine CM.out.mono ?_
  rintro e w1 ⟨ho1, p, L, rfl, hs, hL⟩
  generalize (SpM.fresh (pages % 64 + 1).toNat).acts l n = m at *
  have HS := Lib.hid hs
  have HL := Lib.hid hL
  have hn2 := hs.good.n2
  have HS1 := Lib.hid hs.good.s1
  have HP0 := Lib.hid hs.good.p0
  have HP1 := Lib.hid hs.good.p1
  have HOK := Lib.hid (fun v => runsTo_ok m.st v m.n)
  obtain ⟨N, hN⟩ : ∃ N, N = m.n := ⟨_, rfl⟩
  obtain ⟨st, hst⟩ : ∃ st, st = m.st := ⟨_, rfl⟩
  have CP := Pages_any hs
  have CPR := Lib.hid (fun wr (ho : Only [] w1 wr) (s : Nat) (hs3 : s ≤ 2) => Runs_any (HE.out.only (ho1.trans ho) (by simp)) (hs.still ho) (s : Int) (by unfold I64; omega))
  have CST := Lib.hid (fun wr (ho : Only [] w1 wr) (q : Nat) (hq : q < m.n) => show Grew Tryd.prog 24 #[.pointer (some ⟨p, 0, none⟩), .int .i64 q] wr (.int .i64 (m.st q)) by
    have := State_any (HE.out.only (ho1.trans ho) (by simp)) (hs.still ho) q (by unfold I64; omega)
    rwa [show m.stateOf q = m.st q from if_neg (by omega)] at this)
  rw [← hN, ← hst] at HOK CPR CST
  rw [← hN] at CP hn2
  rw [← hst] at HS1
  have HN := Lib.hid hN
  have HST := Lib.hid hst
  have CPH := Lib.hid CP
  have hmk : ∀ W : World, (Instr.makeSlice 40 (.int .i64 (N : Int)) (.int .i64 (N : Int))).run Tryd.prog W = .ok (.slice (some ⟨W.heap.size, 0, none⟩) N N) (W.alloc (.cells (madeCells #[.int .i64 0] N) 3)) := fun W => Go.run_make_row' 40 3 (.int .i64 0) 8 Tryd.underlying40 info_int rfl .i64 .i64 N (by omega) (by omega) W
  clear hN hst CP hs hL CM CG hg
  go_wp2_with (first | (go_at_call 21; with_reducible refine Still.use CPH.out ?_))
  have hr1 : Row ((w1.alloc (.cells (madeCells #[.int .i64 0] N) 3)).alloc (.cells #[.int .i64 0, .int .i64 0, .int .i64 0] 60)) w1.heap.size N (toldF st 0 0) := ⟨_, _, (Blk.new w1 3 (madeCells #[.int .i64 0] N)).alloc _, by rw [size_madeCells]; exact Nat.le_refl _, fun k hk => by
    rw [made_at hk]; unfold toldF; rw [if_neg]; have := HS1.out k; rintro (h | ⟨_, h⟩) <;> omega⟩
  have hr2 : Row ((w1.alloc (.cells (madeCells #[.int .i64 0] N) 3)).alloc (.cells #[.int .i64 0, .int .i64 0, .int .i64 0] 60)) (w1.heap.size + 1) 3 (sumF st N 0 0) := ⟨_, _, Blk.new2' w1 _ 60 #[.int .i64 0, .int .i64 0, .int .i64 0], by simp, fun k hk => by
    unfold sumF
    rcases (by omega : k = 0 ∨ k = 1 ∨ k = 2) with rfl | rfl | rfl <;> rfl⟩
  have ho2 := ((Only.refl [] w1).alloc (.cells (madeCells #[.int .i64 0] N) 3)).alloc (.cells #[.int .i64 0, .int .i64 0, .int .i64 0] 60)
  generalize (w1.alloc (.cells (madeCells #[.int .i64 0] N) 3)).alloc (.cells #[.int .i64 0, .int .i64 0, .int .i64 0] 60) = w2 at *
  clear hmk
  go_loopw [11] (fun t wr => ∃ s : Nat, s ≤ 3 ∧ t = .int .i64 s ∧ Only [] w1 wr ∧ Row wr w1.heap.size N (toldF st s 0) ∧ Row wr (w1.heap.size + 1) 3 (sumF st N s 0)) (fun t _ => 3 - (intOf t).toNat)
  case atStart => exact ⟨0, by omega, rfl, ho2, hr1, hr2⟩
  case round =>
    clear ho2 hr1 hr2
    obtain ⟨s, hs3, rfl, ho3, hr1, hr2⟩ := hrel
    by_cases hlt : s ≤ 2
    · have d1 : decide ((s : Int) ≤ 2) = true := decide_eq_true (by omega)
      have CR := Lib.hid (CPR.out wr ho3 s hlt)
      have HRS := Lib.hid (HOK.out s)
      generalize hls : runsTo st s N = ls at *
      have HR1 := Lib.hid hr1
      have HR2 := Lib.hid hr2
      have hgl := hr2.lt
      clear hls hr1 hr2
      go_wp2_with fail
      refine CR.out.mono ?_
      rintro _ w3 ⟨x, rfl, ho4, hown⟩
      have ho5 := ho3.trans ho4
      have hr1 := HR1.out.only ho4 (by simp)
      have hr2 := HR2.out.only ho4 (by simp)
      obtain ⟨LL, hLL⟩ : ∃ LL, LL = ls.length := ⟨_, rfl⟩
      rw [← hLL] at hown
      generalize hB : wr.heap.size = B at hown hgl
      have HLL := Lib.hid hLL
      have hl1 := HRS.out.len
      rw [← hLL] at hl1
      obtain ⟨A', c', rfl, _⟩ := own_slice hown
      clear hLL HR1 HR2 CR
      go_wp2_with fail
      go_loopw [13] (fun t wr' => ∃ i : Nat, i ≤ LL ∧ t = .int .i64 i ∧ Only [] w1 wr' ∧ Row wr' w1.heap.size N (toldF st s (endTo ls i)) ∧ Row wr' (w1.heap.size + 1) 3 (sumF st N s (endTo ls i).toNat) ∧ wr'.ownsRow B 64 2 (.slice A' LL c') LL (cellsR ls)) (fun t _ => LL - (intOf t).toNat)
      case atStart => exact ⟨0, Nat.zero_le _, rfl, ho5, hr1, hr2, hown⟩
      case round =>
        clear hown hr1 hr2 ho5 ho4 ho3 d1
        obtain ⟨i, hi, rfl, ho3, hr1, hr2, hown⟩ := hrel
        by_cases hil : i < LL
        · have d1 : decide ((i : Int) < LL) = true := decide_eq_true (by omega)
          obtain ⟨g, c1, hx, hgb, hgl2⟩ := own_form hown (by omega)
          injection hx with e1 _ e3
          subst e1 e3
          obtain ⟨q0, q1, qf⟩ := own_runs hown HLL.out hil
          have f1 := HRS.out.pos i (by rw [← HLL.out]; exact hil)
          have f2 := HRS.out.lo i (by rw [← HLL.out]; exact hil)
          have f3 := (HRS.out.hi i (by rw [← HLL.out]; omega)).1
          have f4 := (HRS.out.hi (i + 1) (by rw [← HLL.out]; omega)).2
          have FG := HRS.out.gap i (by rw [← HLL.out]; exact hil)
          have FB := Lib.hid (HRS.out.body i (by rw [← HLL.out]; exact hil))
          have HPRE := Lib.hid (fun (i' : Nat) (h : i = i' + 1) => And.intro (own_runs hown HLL.out (show i' < LL by omega)) (And.intro (HRS.out.apart i (by rw [← HLL.out]; exact hil) (by omega)) (And.intro (show endTo ls i = (rAt ls i').1 + (rAt ls i').2 by rw [h, endTo_succ]) (And.intro (HRS.out.pos i' (by rw [← HLL.out]; omega)) (And.intro (HRS.out.lo i' (by rw [← HLL.out]; omega)) (HRS.out.hi i' (by rw [← HLL.out]; omega)).1)))))
          have HE1 := Lib.hid (endTo_succ ls i)
          rw [endTo_succ] at f4
          have HOWN := Lib.hid (fun (W : World) (ho : W.ownsRow B 64 2 (.slice (some ⟨g, 0, none⟩) LL c') LL (cellsR ls)) => own_runs ho HLL.out hil)
          generalize (rAt ls i).1 = aa at *
          generalize (rAt ls i).2 = bb at *
          have HR1 := Lib.hid (hr1.congr (fun k _ => told_gap FG f2 k))
          have HC : Hid ((cntTo st s (aa + bb).toNat : Int) = cntTo st s (endTo ls i).toNat + bb) := by
            have g1 := cnt_gap (st := st) (v := s) (a := (endTo ls i).toNat) (aa.toNat - (endTo ls i).toNat) (fun q h1 h2 => FG q (by omega) (by omega))
            have g2 := cnt_body (st := st) (v := s) (a := aa.toNat) bb.toNat (fun q h1 h2 => FB.out q (by omega) (by omega))
            rw [show (endTo ls i).toNat + (aa.toNat - (endTo ls i).toNat) = aa.toNat by omega] at g1
            rw [show aa.toNat + bb.toNat = (aa + bb).toNat by omega, g1] at g2
            rw [g2]
            show _ = _
            omega
          have hc0 := cntTo_le st s (endTo ls i).toNat
          have HR2 := Lib.hid hr2
          have da : decide (bb < 1) = false := decide_eq_false (by omega)
          have db : decide (aa < 0) = false := decide_eq_false (by omega)
          have dc : decide ((N : Int) < bb) = false := decide_eq_false (by omega)
          have dd : decide ((N : Int) < aa + bb) = false := decide_eq_false (by omega)
          clear hr1 hr2 FG hgl2
          generalize hEE : endTo ls i = E at *
          rcases Nat.eq_zero_or_pos i with e0 | h0
          · have d4 : decide ((0 : Int) < (i : Int)) = false := decide_eq_false (by omega)
            have d5 : decide (0 < i) = false := decide_eq_false (by omega)
            clear e0 HPRE
            go_wp2_with fail
            go_quiet (fail)
            go_wp2_with fail
            clear d4 d5
            clear da db dc dd q0 q1 qf d1
            obtain ⟨na, rfl⟩ : ∃ na : Nat, aa = na := ⟨aa.toNat, by omega⟩
            have hoD : Only [] w1 (wr.drewN nq) := ho3.drewN _
            have hd1 : Row (wr.drewN nq) w1.heap.size N (toldF st s na) := HR1.out
            have hd2 : Row (wr.drewN nq) (w1.heap.size + 1) 3 (sumF st N s E.toNat) := HR2.out
            have hownD : (wr.drewN nq).ownsRow B 64 2 (.slice (some ⟨g, 0, none⟩) LL c') LL (cellsR ls) := hown
            generalize wr.drewN nq = w4 at *
            clear hown HR1 HR2 ho3
            go_loopw [14] (fun t wq => ∃ q : Nat, na ≤ q ∧ (q : Int) ≤ na + bb ∧ t = .int .i64 q ∧ Only [] w1 wq ∧ Row wq w1.heap.size N (toldF st s q) ∧ Row wq (w1.heap.size + 1) 3 (sumF st N s E.toNat) ∧ wq.ownsRow B 64 2 (.slice (some ⟨g, 0, none⟩) LL c') LL (cellsR ls)) (fun t _ => (na + bb - intOf t).toNat)
            case atStart => exact ⟨na, Nat.le_refl _, by omega, rfl, hoD, hd1, hd2, hownD⟩
            case round =>
              clear hoD hd1 hd2 hownD
              obtain ⟨q, h1, h2, rfl, ho5, hr1, hr2, hown⟩ := hrel
              obtain ⟨q0, q1, qf⟩ := HOWN.out _ hown
              have HO5 := Lib.hid ho5
              have HR1 := Lib.hid hr1
              have HR2 := Lib.hid hr2
              have HOW := Lib.hid hown
              clear ho5 hr1 hr2 hown
              by_cases hq : (q : Int) < na + bb
              · have dq := decide_eq_true hq
                go_wp2_with fail
                go_quiet (fail)
                have ho5 : Only [] w1 (wr.drewN nq) := HO5.out.drewN _
                have hr1 : Row (wr.drewN nq) w1.heap.size N (toldF st s q) := HR1.out
                have hr2 : Row (wr.drewN nq) (w1.heap.size + 1) 3 (sumF st N s E.toNat) := HR2.out
                have hown : (wr.drewN nq).ownsRow B 64 2 (.slice (some ⟨g, 0, none⟩) LL c') LL (cellsR ls) := HOW.out
                clear HO5 HR1 HR2 HOW q0 q1 qf
                generalize wr.drewN nq = w5 at *
                have hsq : st q = s := FB.out q (by omega) hq
                have y0 := hr1.cell (k := q) (by omega)
                rw [told_at hsq] at y0
                have fy := hr1.frozen q
                have HN1 := Lib.hid ((hr1.set_ q (.int .i64 1)).congr (fun k _ => told_step hsq k))
                have HN2 := Lib.hid (hr2.far (p := ⟨w1.heap.size, q, none⟩) (by simp) (.int .i64 1))
                have HNO := Lib.hid (own_only hown ((Only.refl [w1.heap.size] w5).setCell (p := ⟨w1.heap.size, q, none⟩) (.inl (by simp)) (.int .i64 1)) (fun k hk => by have := own_base hown k hk; simp; omega))
                have HOS := Lib.hid (ho5.setCell (p := ⟨w1.heap.size, q, none⟩) (.inr (Nat.le_refl _)) (.int .i64 1))
                have HCS := Lib.hid (CST.out _ HOS.out q (by omega))
                rw [hsq] at HCS
                clear hr1 hr2 hown ho5 hsq
                go_wp2_with (first | (go_at_call 24; with_reducible refine Grew.use HCS.out (fun w6 ho6 => ?_)))
                go_roundw
                case rel => exact ⟨q + 1, by omega, by omega, by go_num, HOS.out.trans ho6, HN1.out.only ho6 (by simp), HN2.out.only ho6 (by simp), own_only HNO.out ho6 (by simp)⟩
                case measure => simp [intOf]; omega
              · have dq := decide_eq_false hq
                go_wp2_with fail
                go_quiet (fail)
                have ho5 : Only [] w1 (wr.drewN nq) := HO5.out.drewN _
                have hr1 : Row (wr.drewN nq) w1.heap.size N (toldF st s q) := HR1.out
                have hr2 : Row (wr.drewN nq) (w1.heap.size + 1) 3 (sumF st N s E.toNat) := HR2.out
                have hown : (wr.drewN nq).ownsRow B 64 2 (.slice (some ⟨g, 0, none⟩) LL c') LL (cellsR ls) := HOW.out
                clear HO5 HR1 HR2 HOW q0 q1 qf
                generalize wr.drewN nq = w5 at *
                obtain ⟨q0, q1, qf⟩ := HOWN.out _ hown
                have y2 := hr2.cell (k := s) (by omega)
                have fy := hr2.frozen s
                unfold sumF at y2
                rw [if_neg (by omega), if_pos rfl] at y2
                have HN2 := Lib.hid ((hr2.set_ s (.int .i64 (cntTo st s E.toNat + bb))).congr (f' := sumF st N s (na + bb).toNat) (fun k _ => by
                  unfold sumF
                  by_cases e : k = s
                  · subst e
                    rw [if_pos rfl, if_neg (by omega), if_pos rfl, HC.out]
                  · rw [if_neg e, if_neg e, if_neg e]))
                have HN1 := Lib.hid ((hr1.far (p := ⟨w1.heap.size + 1, s, none⟩) (by simp) (.int .i64 (cntTo st s E.toNat + bb))).congr (f' := toldF st s (na + bb)) (fun k _ => by rw [show (q : Int) = na + bb by omega]))
                have HNO := Lib.hid (own_only hown ((Only.refl [w1.heap.size + 1] w5).setCell (p := ⟨w1.heap.size + 1, s, none⟩) (.inl (by simp)) (.int .i64 (cntTo st s E.toNat + bb))) (fun k hk => by have := own_base hown k hk; simp; omega))
                have HOS := Lib.hid (ho5.setCell (p := ⟨w1.heap.size + 1, s, none⟩) (.inr (Nat.le_succ _)) (.int .i64 (cntTo st s E.toNat + bb)))
                clear hr1 hr2 hown ho5 HC
                generalize cntTo st s E.toNat = cc at *
                go_wp2_with fail
                go_region
                go_wp2_with fail
                go_roundw
                case rel => exact ⟨i + 1, by omega, by go_num, HOS.out.drew, by rw [HE1.out]; exact HN1.out.drew, by rw [HE1.out]; exact HN2.out.drew, HNO.out⟩
                case measure => simp [intOf]; omega
          · obtain ⟨i', hi'⟩ : ∃ i', i = i' + 1 := ⟨i - 1, by omega⟩
            obtain ⟨⟨p0, p1, _⟩, g1, g2, g3, g4, g5⟩ := HPRE.out i' hi'
            have d4 : decide ((0 : Int) < (i : Int)) = true := decide_eq_true (by omega)
            have d5 : decide (0 < i) = true := decide_eq_true (by omega)
            generalize (rAt ls i').1 = aa' at *
            generalize (rAt ls i').2 = bb' at *
            have de : decide (aa ≤ aa' + bb') = false := decide_eq_false (by omega)
            have e1 : IntKind.i64.wrap ((i : Int) - 1) = i' := by rw [IntWalk.i64_in _ (by omega)]; omega
            have e2 : ((i : Int) - 1) = i' := by omega
            have b1 : 0 ≤ aa' := by omega
            have b2 : aa' ≤ 1024 := by omega
            have b3 : bb' ≤ 1024 := by omega
            clear hi' HPRE g1 g2 g4 g5
            go_wp2_with fail
            go_quiet (fail)
            go_wp2_with fail
            clear d4 d5 de e1 e2 b1 b2 b3 p0 p1
            clear da db dc dd q0 q1 qf d1
            obtain ⟨na, rfl⟩ : ∃ na : Nat, aa = na := ⟨aa.toNat, by omega⟩
            have hoD : Only [] w1 (wr.drewN nq) := ho3.drewN _
            have hd1 : Row (wr.drewN nq) w1.heap.size N (toldF st s na) := HR1.out
            have hd2 : Row (wr.drewN nq) (w1.heap.size + 1) 3 (sumF st N s E.toNat) := HR2.out
            have hownD : (wr.drewN nq).ownsRow B 64 2 (.slice (some ⟨g, 0, none⟩) LL c') LL (cellsR ls) := hown
            generalize wr.drewN nq = w4 at *
            clear hown HR1 HR2 ho3
            go_loopw [14] (fun t wq => ∃ q : Nat, na ≤ q ∧ (q : Int) ≤ na + bb ∧ t = .int .i64 q ∧ Only [] w1 wq ∧ Row wq w1.heap.size N (toldF st s q) ∧ Row wq (w1.heap.size + 1) 3 (sumF st N s E.toNat) ∧ wq.ownsRow B 64 2 (.slice (some ⟨g, 0, none⟩) LL c') LL (cellsR ls)) (fun t _ => (na + bb - intOf t).toNat)
            case atStart => exact ⟨na, Nat.le_refl _, by omega, rfl, hoD, hd1, hd2, hownD⟩
            case round =>
              clear hoD hd1 hd2 hownD
              obtain ⟨q, h1, h2, rfl, ho5, hr1, hr2, hown⟩ := hrel
              obtain ⟨q0, q1, qf⟩ := HOWN.out _ hown
              have HO5 := Lib.hid ho5
              have HR1 := Lib.hid hr1
              have HR2 := Lib.hid hr2
              have HOW := Lib.hid hown
              clear ho5 hr1 hr2 hown
              by_cases hq : (q : Int) < na + bb
              · have dq := decide_eq_true hq
                go_wp2_with fail
                go_quiet (fail)
                have ho5 : Only [] w1 (wr.drewN nq) := HO5.out.drewN _
                have hr1 : Row (wr.drewN nq) w1.heap.size N (toldF st s q) := HR1.out
                have hr2 : Row (wr.drewN nq) (w1.heap.size + 1) 3 (sumF st N s E.toNat) := HR2.out
                have hown : (wr.drewN nq).ownsRow B 64 2 (.slice (some ⟨g, 0, none⟩) LL c') LL (cellsR ls) := HOW.out
                clear HO5 HR1 HR2 HOW q0 q1 qf
                generalize wr.drewN nq = w5 at *
                have hsq : st q = s := FB.out q (by omega) hq
                have y0 := hr1.cell (k := q) (by omega)
                rw [told_at hsq] at y0
                have fy := hr1.frozen q
                have HN1 := Lib.hid ((hr1.set_ q (.int .i64 1)).congr (fun k _ => told_step hsq k))
                have HN2 := Lib.hid (hr2.far (p := ⟨w1.heap.size, q, none⟩) (by simp) (.int .i64 1))
                have HNO := Lib.hid (own_only hown ((Only.refl [w1.heap.size] w5).setCell (p := ⟨w1.heap.size, q, none⟩) (.inl (by simp)) (.int .i64 1)) (fun k hk => by have := own_base hown k hk; simp; omega))
                have HOS := Lib.hid (ho5.setCell (p := ⟨w1.heap.size, q, none⟩) (.inr (Nat.le_refl _)) (.int .i64 1))
                have HCS := Lib.hid (CST.out _ HOS.out q (by omega))
                rw [hsq] at HCS
                clear hr1 hr2 hown ho5 hsq
                go_wp2_with (first | (go_at_call 24; with_reducible refine Grew.use HCS.out (fun w6 ho6 => ?_)))
                go_roundw
                case rel => exact ⟨q + 1, by omega, by omega, by go_num, HOS.out.trans ho6, HN1.out.only ho6 (by simp), HN2.out.only ho6 (by simp), own_only HNO.out ho6 (by simp)⟩
                case measure => simp [intOf]; omega
              · have dq := decide_eq_false hq
                go_wp2_with fail
                go_quiet (fail)
                have ho5 : Only [] w1 (wr.drewN nq) := HO5.out.drewN _
                have hr1 : Row (wr.drewN nq) w1.heap.size N (toldF st s q) := HR1.out
                have hr2 : Row (wr.drewN nq) (w1.heap.size + 1) 3 (sumF st N s E.toNat) := HR2.out
                have hown : (wr.drewN nq).ownsRow B 64 2 (.slice (some ⟨g, 0, none⟩) LL c') LL (cellsR ls) := HOW.out
                clear HO5 HR1 HR2 HOW q0 q1 qf
                generalize wr.drewN nq = w5 at *
                obtain ⟨q0, q1, qf⟩ := HOWN.out _ hown
                have y2 := hr2.cell (k := s) (by omega)
                have fy := hr2.frozen s
                unfold sumF at y2
                rw [if_neg (by omega), if_pos rfl] at y2
                have HN2 := Lib.hid ((hr2.set_ s (.int .i64 (cntTo st s E.toNat + bb))).congr (f' := sumF st N s (na + bb).toNat) (fun k _ => by
                  unfold sumF
                  by_cases e : k = s
                  · subst e
                    rw [if_pos rfl, if_neg (by omega), if_pos rfl, HC.out]
                  · rw [if_neg e, if_neg e, if_neg e]))
                have HN1 := Lib.hid ((hr1.far (p := ⟨w1.heap.size + 1, s, none⟩) (by simp) (.int .i64 (cntTo st s E.toNat + bb))).congr (f' := toldF st s (na + bb)) (fun k _ => by rw [show (q : Int) = na + bb by omega]))
                have HNO := Lib.hid (own_only hown ((Only.refl [w1.heap.size + 1] w5).setCell (p := ⟨w1.heap.size + 1, s, none⟩) (.inl (by simp)) (.int .i64 (cntTo st s E.toNat + bb))) (fun k hk => by have := own_base hown k hk; simp; omega))
                have HOS := Lib.hid (ho5.setCell (p := ⟨w1.heap.size + 1, s, none⟩) (.inr (Nat.le_succ _)) (.int .i64 (cntTo st s E.toNat + bb)))
                clear hr1 hr2 hown ho5 HC
                generalize cntTo st s E.toNat = cc at *
                go_wp2_with fail
                go_region
                go_wp2_with fail
                go_roundw
                case rel => exact ⟨i + 1, by omega, by go_num, HOS.out.drew, by rw [HE1.out]; exact HN1.out.drew, by rw [HE1.out]; exact HN2.out.drew, HNO.out⟩
                case measure => simp [intOf]; omega
        · have e : i = LL := by omega
          subst e
          have d1 : decide ((i : Int) < i) = false := decide_eq_false (by omega)
          have HN1 := Lib.hid (hr1.congr (f' := toldF st (s + 1) 0) (fun k hk => told_next (by rw [HLL.out]; exact HRS.out.last) k hk))
          have HN2 := Lib.hid (hr2.congr (f' := sumF st N (s + 1) 0) (fun k hk => by
            have hh := HRS.out.hi ls.length (Nat.le_refl _)
            have g1 := cnt_gap (st := st) (v := s) (a := (endTo ls ls.length).toNat) (N - (endTo ls ls.length).toNat) (fun q h1 h2 => HRS.out.last q (by omega) (by omega))
            rw [show (endTo ls ls.length).toNat + (N - (endTo ls ls.length).toNat) = N by omega, ← HLL.out] at g1
            unfold sumF
            rcases Nat.lt_trichotomy k s with e | e | e
            · rw [if_pos e, if_pos (by omega)]
            · subst e; rw [if_neg (by omega), if_pos rfl, if_pos (by omega), g1]
            · rw [if_neg (by omega), if_neg (by omega), if_neg (by omega)]
              by_cases e2 : k = s + 1
              · rw [if_pos e2]; rfl
              · rw [if_neg e2]))
          clear hr1 hr2
          go_wp2_with fail
          go_roundw
          case rel => exact ⟨s + 1, by omega, by go_num, ho3, HN1.out, HN2.out⟩
          case measure => simp [intOf]; omega
    · have d1 : decide ((s : Int) ≤ 2) = false := decide_eq_false (by omega)
      obtain rfl : s = 3 := by omega
      have hx1 := hr2.cell (k := 1) (by omega)
      have hx2 := hr2.cell (k := 2) (by omega)
      have hone := hr1.congr (f' := fun _ => .int .i64 1) (fun k hk => by unfold toldF; rw [if_pos]; have := HS1.out k; left; omega)
      have hx1' : wr.cell? ⟨w1.heap.size + 1, 1, none⟩ = some (.int .i64 (cntTo st 1 N)) := hx1
      have hx2' : wr.cell? ⟨w1.heap.size + 1, 2, none⟩ = some (.int .i64 (cntTo st 2 N)) := hx2
      have HX1 := Lib.hid hx1'
      have HX2 := Lib.hid hx2'
      have HO3 := Lib.hid ho3
      have HONE := Lib.hid hone
      clear hx1 hx2 hx1' hx2' hr1 hr2 hone ho3
      go_wp2_with fail
      go_loop [15] (fun t => ∃ q : Nat, q ≤ N ∧ t = .int .i64 q) (fun t => N - (intOf t).toNat)
      case atStart => exact ⟨0, Nat.zero_le _, rfl⟩
      case round =>
        obtain ⟨q, hq, rfl⟩ := hrel
        by_cases hlq : q < N
        · have d2 : decide ((q : Int) < N) = true := decide_eq_true (by omega)
          have y0 := HONE.out.cell hlq
          go_wp2_with fail
          go_round
          case rel => exact ⟨q + 1, by omega, by go_num⟩
          case measure => simp [intOf]; omega
        · have e : q = N := by omega
          have d2 : decide ((q : Int) < N) = false := decide_eq_false (by omega)
          clear e
          have hsw := HS.out.still HO3.out
          go_wp2_with fail
          refine (Clone_any hsw).mono ?_
          rintro _ w5 ⟨ho5, p', L', rfl, ht, _⟩
          have hs5 := hsw.still ho5
          have hE5 := HE.out.only ((ho1.trans HO3.out).trans ho5) (by simp)
          have HHT := Lib.hid ht
          have HH5 := Lib.hid hs5
          have HHE := Lib.hid hE5
          clear ht hs5 hE5
          go_wp2_with fail
          have CRD := Read_any HHE.out HH5.out a i1
          generalize (if m.acc a 1 = 0 then m.h (a / 8) else 0) = rv at CRD
          generalize m.acc a 1 = re at CRD
          refine Grew.use CRD (fun w6 ho6 => ?_)
          clear CRD
          have HE6 := Lib.hid (HHE.out.only ho6 (by simp))
          have HS6 := Lib.hid (HH5.out.still ho6)
          have HT6 := Lib.hid (HHT.out.still ho6)
          have hoF := ((ho1.trans HO3.out).trans ho5).trans ho6
          have g1 := cell_after (((ho5.trans ho6).cell (World.block_lt_of_cell? _ _ HX1.out) (by simp)).trans HX1.out)
          have g2 := cell_after (((ho5.trans ho6).cell (World.block_lt_of_cell? _ _ HX2.out) (by simp)).trans HX2.out)
          have CMV := Lib.hid (fun u : After w6 => show Still Tryd.prog 20 #[.pointer (some ⟨p, 0, none⟩)] u.w' (.int .i64 ((cntTo st 1 N : Int) + cntTo st 2 N)) by
            have := Mapped_any (HS6.out.still u.ok)
            rwa [← HST.out, ← HN.out, mapTo_cnt HS1.out, Int.natCast_add] at this)
          have CDV := Lib.hid (fun u : After w6 => show Still Tryd.prog 19 #[.pointer (some ⟨p, 0, none⟩)] u.w' (.int .i64 (cntTo st 2 N)) by
            have := Dirty_any (HS6.out.still u.ok)
            rwa [show m.dirty = cntTo st 2 N by rw [HST.out, HN.out]; rfl] at this)
          have CPV := Lib.hid (fun u : After w6 => Peak_any (HS6.out.still u.ok))
          have b1 := cntTo_le st 1 N
          have b2 := cntTo_le st 2 N
          have dp : decide ((cntTo st 2 N : Int) ≤ m.pk) = true := decide_eq_true (by have := HP0.out; rwa [show m.dirty = cntTo st 2 N by rw [HST.out, HN.out]; rfl] at this)
          generalize cntTo st 1 N = c1 at *
          generalize cntTo st 2 N = c2 at *
          generalize m.pk = pk at CPV dp
          go_wp2_with fail
          refine wp_region_grew (by kernel_rfl) (by kernel_rfl) ?_
          repeat (go_big_quiet_step (first
            | (go_at_call 30; exact Grew.g (alike_any (HE6.out.only (After.ok _) (by simp)) (HS6.out.still (After.ok _)) (HT6.out.still (After.ok _))))
            | (go_at_call 20; exact Grew.g (Still.grew (CMV.out _)))
            | (go_at_call 19; exact Grew.g (Still.grew (CDV.out _)))
            | (go_at_call 18; exact Grew.g (Still.grew (CPV.out _)))
            | (go_at_call 14; exact Grew.g (alive_any _ (HE6.out.only (After.ok _) (by simp))))))
          refine wpQuiet_nil ?_
          rintro _ ⟨u, rfl⟩
          go_wp2_with fail
          go_ret
          exact ⟨rfl, hoF.trans u.ok⟩
end Go.Proofs.YtmalmkccgjeboaaDoor
