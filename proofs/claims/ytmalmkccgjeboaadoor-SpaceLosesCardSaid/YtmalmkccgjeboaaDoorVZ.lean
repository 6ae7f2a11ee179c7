/- The walk of SpaceLoses. -/
import Derived.Test.YtmalmkccgjeboaaDoorVT
set_option linter.unusedVariables false
set_option linter.unusedSimpArgs false
namespace Go.Proofs.YtmalmkccgjeboaaDoor
open Go.RowKit

theorem SpM.setR_setR (m : SpM) (a b x y : Int) : (m.setR a b x).setR a b y = m.setR a b y := by
  unfold SpM.setR
  dsimp only
  congr 1
  · funext i
    by_cases h : a ≤ i ∧ i < a + b
    · simp only [if_pos h]
    · simp only [if_neg h]
  · funext j
    by_cases h : a ≤ j / 32 ∧ j / 32 < a + b
    · simp only [if_pos h]
    · simp only [if_neg h]
theorem SpM.map_after {m : SpM} {a b : Int} (h : m.inR a b) : (m.setR a b 0).mapE a b = 0 ∧ (m.setR a b 0).mapM a b = m.setR a b 1 := by
  have e : (m.setR a b 0).mapE a b = 0 := by
    unfold SpM.mapE
    rw [if_neg (by simpa using (show (m.setR a b 0).inR a b from h)), if_neg]
    rw [anyTo_true]
    rintro ⟨k, hk, hz⟩
    have h0 : (m.setR a b 0).st (a + k) = 0 := by
      show (if a ≤ a + (k : Int) ∧ a + (k : Int) < a + b then (0 : Int) else _) = 0
      rw [if_pos (by have := h.1; omega)]
    rw [h0] at hz
    cases hz
  exact ⟨e, by unfold SpM.mapM; rw [if_pos e, SpM.setR_setR]⟩
/-- One word of a page can be accessed just if the page is mapped. -/
theorem SpM.acc_one (m : SpM) {p i : Nat} (hp : p < m.n) (hi : i < 32) : m.acc ((p : Int) * 256 + 8 * (i : Int)) 1 = if m.st p = 0 then 7 else 0 := by
  unfold SpM.acc
  rw [if_neg (by omega), if_neg (by omega)]
  have e1 : lastP ((p : Int) * 256 + 8 * (i : Int)) 1 = p := by unfold lastP; omega
  rw [e1, if_neg (by omega)]
  have e2 : ((p : Int) + 1).toNat - (((p : Int) * 256 + 8 * (i : Int)) / 256).toNat = 1 := by omega
  have e3 : ((((p : Int) * 256 + 8 * (i : Int)) / 256).toNat : Int) = p := by omega
  rw [e2, e3]
  show (if (false || (m.st ((p : Int) + ((0 : Nat) : Int)) == 0)) = true then (7 : Int) else 0) = _
  rw [show ((p : Int) + ((0 : Nat) : Int)) = p by omega]
  by_cases e : m.st p = 0
  · rw [if_pos e, e]; rfl
  · rw [if_neg e, if_neg (by simpa using e)]
/-- What Read says of a word. -/
def SpM.rd (m : SpM) (p i : Nat) : Int := if m.acc ((p : Int) * 256 + 8 * (i : Int)) 1 = 0 then m.h (((p : Int) * 256 + 8 * (i : Int)) / 8) else 0
theorem rd_in {m : SpM} {a b : Int} {p i : Nat} (h1 : a ≤ p) (h2 : (p : Int) - a < b) (hi : i < 32) : (m.setR a b 1).rd p i = 0 := by
  unfold SpM.rd
  have e : (m.setR a b 1).h (((p : Int) * 256 + 8 * (i : Int)) / 8) = 0 := by
    show (if _ then (0 : Int) else _) = 0
    rw [if_pos (by omega)]
  rw [e]
  split <;> rfl
theorem rd_out {m : SpM} {a b : Int} {p i : Nat} (h : ¬ (a ≤ p ∧ (p : Int) - a < b)) (hp : p < m.n) (hi : i < 32) : (m.setR a b 1).rd p i = m.rd p i := by
  unfold SpM.rd
  have hs : (m.setR a b 1).st p = m.st p := by
    show (if _ then (1 : Int) else _) = _
    rw [if_neg (by omega)]
  have hh : (m.setR a b 1).h (((p : Int) * 256 + 8 * (i : Int)) / 8) = m.h (((p : Int) * 256 + 8 * (i : Int)) / 8) := by
    show (if _ then (0 : Int) else _) = _
    rw [if_neg (by omega)]
  rw [SpM.acc_one _ (show p < (m.setR a b 1).n from hp) hi, SpM.acc_one _ hp hi, hs, hh]

set_option maxRecDepth 100000 in
set_option maxHeartbeats 4000000 in
theorem SpaceLoses_walk (w : World) (hE : Env w) (pages : Int) (hp : 0 ≤ pages ∧ pages ≤ 255) (A : Option Addr) (n c : Nat) (l : List Ac) (hr : ReadsA w A n l) (hn : n ≤ 9223372036854775807) (a : Int) (i1 : I64 a) (b : Int) (i2 : I64 b) (unmap : Bool) :
    Grew Tryd.prog 5 #[.int .u8 pages, .slice A n c, .int .i64 a, .int .i64 b, .bool unmap] w (.bool true) := by
  have HE := Lib.hid hE
  have CG := Lib.hid (fun W => great_any W A n c hn)
  have CM := Lib.hid (lmade_any hE pages hp A n c l hr hn)
  clear hr hE
  by_cases hg : 40 < n
  · rw [decide_eq_true hg] at CG
    go_enter Tryd.func5, Tryd.ntmps5
    go_wp2_with (first | (go_at_call 13; with_reducible refine Still.use (CG.out _) ?_) | (go_at_call 14; with_reducible refine Grew.use (alive_any _ HE.out) (fun w5 ho5 => ?_)))
    go_ret
    exact ⟨rfl, ho5⟩
  rw [decide_eq_false hg] at CG
  go_enter Tryd.func5, Tryd.ntmps5
  go_wp2_with (first | (go_at_call 13; with_reducible refine Still.use (CG.out _) ?_))
  refine CM.out.mono ?_
  rintro e w1 ⟨ho1, p, L, rfl, hs, hL⟩
  generalize (SpM.fresh (pages % 64 + 1).toNat).acts l n = m at *
  go_wp2_with fail
  refine (Clone_any hs).mono ?_
  rintro e w2 ⟨ho2, p', T, rfl, ht, hT⟩
  have hs2 := hs.still ho2
  have ho12 := ho1.trans ho2
  have HE2 := HE.out.only ho12 (by simp)
  have dTL : ∀ b ∈ T, b ∉ L := fun b hb2 hb => by have := hT b hb2; have := hs.lt b hb; omega
  have hgn := hs2.good.n2
  clear CM hs
  cases unmap
  · go_wp2_with fail
    refine (Release_any HE2 hs2 a b i1 i2).mono ?_
    rintro e w3 ⟨rfl, hTn⟩
    have ht3 := ht.only hTn.1 dTL
    have ho3 : Only [] w w3 := ho12.then_ hTn.1 (fun b hb => .inr (hL b hb))
    obtain ⟨_, L3, hs3, hL3⟩ := hTn
    have HE3 := HE.out.only ho3 (by simp)
    by_cases h0 : m.leaveE a b = 0
    · rw [h0]
      have hin : m.inR a b := by
        unfold SpM.leaveE at h0
        split at h0
        · cases h0
        · rename_i h; simpa using h
      rw [show m.leaveM a b 1 = m.setR a b 1 from if_pos h0] at hs3
      have hsF := hs3
      have htF := ht3
      have hoF := ho3
      clear hs3 ht3 hs2 ht h0 hL hL3 hT dTL
      have HS := Lib.hid hsF
      have HT := Lib.hid htF
      have HIN := Lib.hid hin
      obtain ⟨r1, r2, r3, r4⟩ := hin
      obtain ⟨N, hN⟩ : ∃ N, N = m.n := ⟨_, rfl⟩
      rw [← hN] at r3 r4 hgn
      have HN := Lib.hid hN
      clear hsF htF hN
      go_wp2_with fail
      go_loopw [15] (fun t wr => ∃ k : Nat, k ≤ N ∧ t = .int .i64 k ∧ Only [] w3 wr) (fun t _ => N - (intOf t).toNat)
      case atStart => exact ⟨0, Nat.zero_le _, rfl, Only.refl _ _⟩
      case round =>
        obtain ⟨k, hk, rfl, ho⟩ := hrel
        have CP := Pages_any (HS.out.still ho)
        rw [show (m.setR a b 1).n = N from HN.out.symm] at CP
        have HCP := Lib.hid CP
        clear CP
        have hoW := hoF.trans ho
        by_cases hlt : k < N
        · have d1 : decide ((k : Int) < N) = true := decide_eq_true (by omega)
          have CS := fun W (h1 : Only [] wr W) => State_any (HE.out.only (hoW.trans h1) (by simp)) (HS.out.still (ho.trans h1)) k (by unfold I64; omega)
          have CS' := fun W (h1 : Only [] wr W) => State_any (HE.out.only (hoW.trans h1) (by simp)) (HT.out.still (ho.trans h1)) k (by unfold I64; omega)
          rw [show (m.setR a b 1).stateOf k = (m.setR a b 1).st k from if_neg (by have := HN.out; show ¬ ((k : Int) < 0 ∨ (m.n : Int) ≤ k); omega)] at CS
          rw [show m.stateOf k = m.st k from if_neg (by have := HN.out; omega)] at CS'
          by_cases hi : a ≤ (k : Int) ∧ (k : Int) - a < b
          · have e1 : decide (a ≤ (k : Int)) = true := decide_eq_true hi.1
            have e2 : decide ((k : Int) - a < b) = true := decide_eq_true hi.2
            rw [show (m.setR a b 1).st k = 1 by (show (if _ then (1 : Int) else _) = 1; rw [if_pos (by omega)])] at CS
            have HCS := Lib.hid CS
            clear CS CS'
            have HRD := Lib.hid (fun i (h : i < 32) => rd_in (m := m) hi.1 hi.2 h)
            go_wp2_with (first | (go_at_call 21; with_reducible refine Still.use HCP.out ?_) | (go_at_call 24; with_reducible refine Grew.use (HCS.out _ (Only.refl _ _)) (fun w5 ho5 => ?_)))
            have hs5 := ho.trans ho5
            go_loopw [17] (fun t wr => ∃ i : Nat, i ≤ 32 ∧ t = .int .i64 (8 * (i : Int)) ∧ Only [] w3 wr) (fun t _ => 300 - (intOf t).toNat)
            case atStart => exact ⟨0, by omega, rfl, hs5⟩
            case round =>
              obtain ⟨i, hi2, rfl, hoi⟩ := hrel
              have hoiW := hoF.trans hoi
              by_cases hlt2 : i < 32
              · have d2 : decide (8 * (i : Int) < 256) = true := decide_eq_true (by omega)
                have CSI := State_any (HE.out.only hoiW (by simp)) (HS.out.still hoi) k (by unfold I64; omega)
                rw [show (m.setR a b 1).stateOf k = (m.setR a b 1).st k from if_neg (by have := HN.out; show ¬ ((k : Int) < 0 ∨ (m.n : Int) ≤ k); omega)] at CSI
                have CR := fun W (h1 : Only [] wr W) => Read_any (HE.out.only (hoiW.trans h1) (by simp)) (HS.out.still (hoi.trans h1)) ((k : Int) * 256 + 8 * (i : Int)) (by unfold I64; omega)
                have CR' := fun W (h1 : Only [] wr W) => Read_any (HE.out.only (hoiW.trans h1) (by simp)) (HT.out.still (hoi.trans h1)) ((k : Int) * 256 + 8 * (i : Int)) (by unfold I64; omega)
                have hrd := HRD.out i hlt2
                rw [show (if (m.setR a b 1).acc ((k : Int) * 256 + 8 * (i : Int)) 1 = 0 then (m.setR a b 1).h (((k : Int) * 256 + 8 * (i : Int)) / 8) else 0) = (m.setR a b 1).rd k i from rfl, hrd] at CR
                rw [show (if m.acc ((k : Int) * 256 + 8 * (i : Int)) 1 = 0 then m.h (((k : Int) * 256 + 8 * (i : Int)) / 8) else 0) = m.rd k i from rfl] at CR'
                clear hrd
                generalize m.rd k i = rv at *
                generalize (m.setR a b 1).acc ((k : Int) * 256 + 8 * (i : Int)) 1 = q1 at *
                generalize m.acc ((k : Int) * 256 + 8 * (i : Int)) 1 = q2 at *
                generalize (m.setR a b 1).st k = sq at *
                have HCSI := Lib.hid CSI
                have HCR := Lib.hid CR
                have HCR' := Lib.hid CR'
                clear CSI CR CR'
                by_cases hz : sq = 0
                · have d3 : (sq == 0) = true := beq_iff_eq.2 hz
                  subst hz
                  go_wp2_with (first | (go_at_call 24; with_reducible refine Grew.use HCSI.out (fun w7 ho7 => ?_)))
                  go_roundw
                  case rel => exact ⟨k + 1, by omega, by go_num, hoi.trans ho7⟩
                  case measure => simp [intOf]; omega
                · have d3 : (sq == 0) = false := beq_eq_false_iff_ne.2 hz
                  have d3' : (sq != 0) = true := bne_iff_ne.2 hz
                  go_wp2_with (first | (go_at_call 24; with_reducible refine Grew.use HCSI.out (fun w7 ho7 => ?_)) | (go_at_call 17; with_reducible refine Grew.use (HCR.out _ ho7) (fun w8 ho8 => ?_)) | (go_at_call 17; with_reducible refine Grew.use (HCR'.out _ (ho7.trans ho8)) (fun w9 ho9 => ?_)))
                  go_roundw
                  case rel => exact ⟨i + 1, by omega, by go_num, hoi.trans (ho7.trans (ho8.trans ho9))⟩
                  case measure => simp [intOf]; omega
              · have e : i = 32 := by omega
                have d2 : decide (8 * (i : Int) < 256) = false := decide_eq_false (by omega)
                go_wp2_with fail
                go_roundw
                case rel => exact ⟨k + 1, by omega, by go_num, hoi⟩
                case measure => simp [intOf]; omega
          · have D : Hid ((decide (a ≤ (k : Int)) = false) ∨ (decide (a ≤ (k : Int)) = true ∧ decide ((k : Int) - a < b) = false)) := by
              show _ ∨ _
              by_cases h1 : a ≤ (k : Int)
              · exact .inr ⟨decide_eq_true h1, decide_eq_false (fun h => hi ⟨h1, h⟩)⟩
              · exact .inl (decide_eq_false h1)
            rw [show (m.setR a b 1).st k = m.st k by (show (if _ then (1 : Int) else _) = _; rw [if_neg (by omega)])] at CS
            have hv := HS.out.good.s1 k
            generalize m.st k = sv at *
            have HCS := Lib.hid CS
            have HCS' := Lib.hid CS'
            clear CS CS'
            have HRD := Lib.hid (fun i (h : i < 32) => rd_out (m := m) hi (by have := HN.out; omega : k < m.n) h)
            clear hi hv
            rcases D.out with e1 | ⟨e1, e2⟩
            all_goals
              clear D
              go_wp2_with (first | (go_at_call 21; with_reducible refine Still.use HCP.out ?_) | (go_at_call 24; with_reducible refine Grew.use (HCS.out _ (Only.refl _ _)) (fun w5 ho5 => ?_)) | (go_at_call 24; with_reducible refine Grew.use (HCS'.out _ ho5) (fun w6 ho6 => ?_)))
              have hs5 := ho.trans (ho5.trans ho6)
              go_loopw [17] (fun t wr => ∃ i : Nat, i ≤ 32 ∧ t = .int .i64 (8 * (i : Int)) ∧ Only [] w3 wr) (fun t _ => 300 - (intOf t).toNat)
              case atStart => exact ⟨0, by omega, rfl, hs5⟩
              case round =>
                obtain ⟨i, hi2, rfl, hoi⟩ := hrel
                have hoiW := hoF.trans hoi
                by_cases hlt2 : i < 32
                · have d2 : decide (8 * (i : Int) < 256) = true := decide_eq_true (by omega)
                  have CSI := State_any (HE.out.only hoiW (by simp)) (HS.out.still hoi) k (by unfold I64; omega)
                  rw [show (m.setR a b 1).stateOf k = (m.setR a b 1).st k from if_neg (by have := HN.out; show ¬ ((k : Int) < 0 ∨ (m.n : Int) ≤ k); omega)] at CSI
                  have CR := fun W (h1 : Only [] wr W) => Read_any (HE.out.only (hoiW.trans h1) (by simp)) (HS.out.still (hoi.trans h1)) ((k : Int) * 256 + 8 * (i : Int)) (by unfold I64; omega)
                  have CR' := fun W (h1 : Only [] wr W) => Read_any (HE.out.only (hoiW.trans h1) (by simp)) (HT.out.still (hoi.trans h1)) ((k : Int) * 256 + 8 * (i : Int)) (by unfold I64; omega)
                  have hrd := HRD.out i hlt2
                  rw [show (if (m.setR a b 1).acc ((k : Int) * 256 + 8 * (i : Int)) 1 = 0 then (m.setR a b 1).h (((k : Int) * 256 + 8 * (i : Int)) / 8) else 0) = (m.setR a b 1).rd k i from rfl, hrd] at CR
                  rw [show (if m.acc ((k : Int) * 256 + 8 * (i : Int)) 1 = 0 then m.h (((k : Int) * 256 + 8 * (i : Int)) / 8) else 0) = m.rd k i from rfl] at CR'
                  clear hrd
                  generalize m.rd k i = rv at *
                  generalize (m.setR a b 1).acc ((k : Int) * 256 + 8 * (i : Int)) 1 = q1 at *
                  generalize m.acc ((k : Int) * 256 + 8 * (i : Int)) 1 = q2 at *
                  generalize (m.setR a b 1).st k = sq at *
                  have HCSI := Lib.hid CSI
                  have HCR := Lib.hid CR
                  have HCR' := Lib.hid CR'
                  clear CSI CR CR'
                  by_cases hz : sq = 0
                  · have d3 : (sq == 0) = true := beq_iff_eq.2 hz
                    subst hz
                    go_wp2_with (first | (go_at_call 24; with_reducible refine Grew.use HCSI.out (fun w7 ho7 => ?_)))
                    go_roundw
                    case rel => exact ⟨k + 1, by omega, by go_num, hoi.trans ho7⟩
                    case measure => simp [intOf]; omega
                  · have d3 : (sq == 0) = false := beq_eq_false_iff_ne.2 hz
                    have d3' : (sq != 0) = true := bne_iff_ne.2 hz
                    go_wp2_with (first | (go_at_call 24; with_reducible refine Grew.use HCSI.out (fun w7 ho7 => ?_)) | (go_at_call 17; with_reducible refine Grew.use (HCR.out _ ho7) (fun w8 ho8 => ?_)) | (go_at_call 17; with_reducible refine Grew.use (HCR'.out _ (ho7.trans ho8)) (fun w9 ho9 => ?_)))
                    go_roundw
                    case rel => exact ⟨i + 1, by omega, by go_num, hoi.trans (ho7.trans (ho8.trans ho9))⟩
                    case measure => simp [intOf]; omega
                · have e : i = 32 := by omega
                  have d2 : decide (8 * (i : Int) < 256) = false := decide_eq_false (by omega)
                  go_wp2_with fail
                  go_roundw
                  case rel => exact ⟨k + 1, by omega, by go_num, hoi⟩
                  case measure => simp [intOf]; omega
        · have e : k = N := by omega
          have d1 : decide ((k : Int) < N) = false := decide_eq_false (by omega)
          go_wp2_with (first | (go_at_call 21; with_reducible refine Still.use HCP.out ?_) | (go_at_call 14; with_reducible refine Grew.use (alive_any _ (HE.out.only hoW (by simp))) (fun w8 ho8 => ?_)))
          go_ret
          exact ⟨rfl, hoW.trans ho8⟩
    · have d0 : (m.leaveE a b == 0) = false := beq_eq_false_iff_ne.2 h0
      have d0' : (m.leaveE a b != 0) = true := bne_iff_ne.2 h0
      clear hs3 ht3 h0
      generalize m.leaveE a b = ee at *
      go_wp2_with (first | (go_at_call 14; with_reducible refine Grew.use (alive_any _ HE3) (fun w5 ho5 => ?_)))
      go_ret
      exact ⟨rfl, ho3.trans ho5⟩
  · go_wp2_with fail
    refine (Unmap_any HE2 hs2 a b i1 i2).mono ?_
    rintro e w3 ⟨rfl, hTn⟩
    have ht3 := ht.only hTn.1 dTL
    have ho3 : Only [] w w3 := ho12.then_ hTn.1 (fun b hb => .inr (hL b hb))
    obtain ⟨_, L3, hs3, hL3⟩ := hTn
    have HE3 := HE.out.only ho3 (by simp)
    by_cases h0 : m.leaveE a b = 0
    · rw [h0]
      have hin : m.inR a b := by
        unfold SpM.leaveE at h0
        split at h0
        · cases h0
        · rename_i h; simpa using h
      rw [show m.leaveM a b 0 = m.setR a b 0 from if_pos h0] at hs3
      have hin' := hin
      obtain ⟨r1, r2, r3, r4⟩ := hin'
      have hgb : b ≤ 1024 ∧ a ≤ 1024 := by omega
      have HS3 := Lib.hid hs3
      have HT3 := Lib.hid ht3
      have HINU := Lib.hid hin
      have h3T := ht3.lt
      have hszq := ho12.size
      have dT3 : ∀ x ∈ T, x ∉ L3 := fun x hx hx2 => by
        rcases hL3 x hx2 with h | h
        · exact dTL x hx h
        · have := ht.lt x hx; omega
      have hL3w : ∀ x ∈ L3, w.heap.size ≤ x := fun x hx => by
        rcases hL3 x hx with h | h
        · exact hL x h
        · omega
      have HD3 := Lib.hid dT3
      have HL3W := Lib.hid hL3w
      clear hs3 ht3 hs2 ht h0 hL hL3 hT dTL dT3 hL3w hin h3T
      go_wp2_with fail
      go_loopw [14] (fun t wr => ∃ k : Nat, (k : Int) ≤ b ∧ t = .int .i64 (a + k) ∧ Only [] w3 wr) (fun t _ => (a + b).toNat - (intOf t).toNat)
      case atStart => exact ⟨0, by omega, by simp, Only.refl _ _⟩
      case round =>
        obtain ⟨k, hk, rfl, hok⟩ := hrel
        have hokW := ho3.trans hok
        by_cases hlt : (k : Int) < b
        · have d1 : decide (a + k < a + b) = true := decide_eq_true (by omega)
          have CS := State_any (HE.out.only hokW (by simp)) (HS3.out.still hok) (a + k) (by unfold I64; omega)
          rw [show (m.setR a b 0).stateOf (a + k) = 0 by (unfold SpM.stateOf; rw [if_neg (by show ¬ (a + (k : Int) < 0 ∨ (m.n : Int) ≤ a + k); omega)]; show (if _ then (0 : Int) else _) = 0; rw [if_pos (by omega)])] at CS
          have HCS := Lib.hid CS
          clear CS
          go_wp2_with (first | (go_at_call 24; with_reducible refine Grew.use HCS.out (fun w5 ho5 => ?_)))
          go_roundw
          case rel => exact ⟨k + 1, by omega, by go_num, hok.trans ho5⟩
          case measure => simp [intOf]; omega
        · have d1 : decide (a + k < a + b) = false := decide_eq_false (by omega)
          have CMP := Lib.hid (Map_any (HE.out.only hokW (by simp)) (HS3.out.still hok) a b i1 i2)
          go_wp2_with fail
          refine CMP.out.mono ?_
          rintro e w4 ⟨rfl, hTn2⟩
          obtain ⟨hm1, hm2⟩ := SpM.map_after HINU.out
          rw [hm1]
          rw [hm2] at hTn2
          have htF := (HT3.out.still hok).only hTn2.1 HD3.out
          have hoF : Only [] w w4 := hokW.then_ hTn2.1 (fun x hx => .inr (HL3W.out x hx))
          obtain ⟨_, L4, hsF, hL4⟩ := hTn2
          have hin := HINU.out
          clear hm1 hm2 r1 r2 r3 r4
          have HS := Lib.hid hsF
          have HT := Lib.hid htF
          have HIN := Lib.hid hin
          obtain ⟨r1, r2, r3, r4⟩ := hin
          obtain ⟨N, hN⟩ : ∃ N, N = m.n := ⟨_, rfl⟩
          rw [← hN] at r3 r4 hgn
          have HN := Lib.hid hN
          clear hsF htF hN
          go_wp2_with fail
          go_loopw [15] (fun t wr => ∃ k : Nat, k ≤ N ∧ t = .int .i64 k ∧ Only [] w4 wr) (fun t _ => N - (intOf t).toNat)
          case atStart => exact ⟨0, Nat.zero_le _, rfl, Only.refl _ _⟩
          case round =>
            obtain ⟨k, hk, rfl, ho⟩ := hrel
            have CP := Pages_any (HS.out.still ho)
            rw [show (m.setR a b 1).n = N from HN.out.symm] at CP
            have HCP := Lib.hid CP
            clear CP
            have hoW := hoF.trans ho
            by_cases hlt : k < N
            · have d1 : decide ((k : Int) < N) = true := decide_eq_true (by omega)
              have CS := fun W (h1 : Only [] wr W) => State_any (HE.out.only (hoW.trans h1) (by simp)) (HS.out.still (ho.trans h1)) k (by unfold I64; omega)
              have CS' := fun W (h1 : Only [] wr W) => State_any (HE.out.only (hoW.trans h1) (by simp)) (HT.out.still (ho.trans h1)) k (by unfold I64; omega)
              rw [show (m.setR a b 1).stateOf k = (m.setR a b 1).st k from if_neg (by have := HN.out; show ¬ ((k : Int) < 0 ∨ (m.n : Int) ≤ k); omega)] at CS
              rw [show m.stateOf k = m.st k from if_neg (by have := HN.out; omega)] at CS'
              by_cases hi : a ≤ (k : Int) ∧ (k : Int) - a < b
              · have e1 : decide (a ≤ (k : Int)) = true := decide_eq_true hi.1
                have e2 : decide ((k : Int) - a < b) = true := decide_eq_true hi.2
                rw [show (m.setR a b 1).st k = 1 by (show (if _ then (1 : Int) else _) = 1; rw [if_pos (by omega)])] at CS
                have HCS := Lib.hid CS
                clear CS CS'
                have HRD := Lib.hid (fun i (h : i < 32) => rd_in (m := m) hi.1 hi.2 h)
                go_wp2_with (first | (go_at_call 21; with_reducible refine Still.use HCP.out ?_) | (go_at_call 24; with_reducible refine Grew.use (HCS.out _ (Only.refl _ _)) (fun w5 ho5 => ?_)))
                have hs5 := ho.trans ho5
                go_loopw [17] (fun t wr => ∃ i : Nat, i ≤ 32 ∧ t = .int .i64 (8 * (i : Int)) ∧ Only [] w4 wr) (fun t _ => 300 - (intOf t).toNat)
                case atStart => exact ⟨0, by omega, rfl, hs5⟩
                case round =>
                  obtain ⟨i, hi2, rfl, hoi⟩ := hrel
                  have hoiW := hoF.trans hoi
                  by_cases hlt2 : i < 32
                  · have d2 : decide (8 * (i : Int) < 256) = true := decide_eq_true (by omega)
                    have CSI := State_any (HE.out.only hoiW (by simp)) (HS.out.still hoi) k (by unfold I64; omega)
                    rw [show (m.setR a b 1).stateOf k = (m.setR a b 1).st k from if_neg (by have := HN.out; show ¬ ((k : Int) < 0 ∨ (m.n : Int) ≤ k); omega)] at CSI
                    have CR := fun W (h1 : Only [] wr W) => Read_any (HE.out.only (hoiW.trans h1) (by simp)) (HS.out.still (hoi.trans h1)) ((k : Int) * 256 + 8 * (i : Int)) (by unfold I64; omega)
                    have CR' := fun W (h1 : Only [] wr W) => Read_any (HE.out.only (hoiW.trans h1) (by simp)) (HT.out.still (hoi.trans h1)) ((k : Int) * 256 + 8 * (i : Int)) (by unfold I64; omega)
                    have hrd := HRD.out i hlt2
                    rw [show (if (m.setR a b 1).acc ((k : Int) * 256 + 8 * (i : Int)) 1 = 0 then (m.setR a b 1).h (((k : Int) * 256 + 8 * (i : Int)) / 8) else 0) = (m.setR a b 1).rd k i from rfl, hrd] at CR
                    rw [show (if m.acc ((k : Int) * 256 + 8 * (i : Int)) 1 = 0 then m.h (((k : Int) * 256 + 8 * (i : Int)) / 8) else 0) = m.rd k i from rfl] at CR'
                    clear hrd
                    generalize m.rd k i = rv at *
                    generalize (m.setR a b 1).acc ((k : Int) * 256 + 8 * (i : Int)) 1 = q1 at *
                    generalize m.acc ((k : Int) * 256 + 8 * (i : Int)) 1 = q2 at *
                    generalize (m.setR a b 1).st k = sq at *
                    have HCSI := Lib.hid CSI
                    have HCR := Lib.hid CR
                    have HCR' := Lib.hid CR'
                    clear CSI CR CR'
                    by_cases hz : sq = 0
                    · have d3 : (sq == 0) = true := beq_iff_eq.2 hz
                      subst hz
                      go_wp2_with (first | (go_at_call 24; with_reducible refine Grew.use HCSI.out (fun w7 ho7 => ?_)))
                      go_roundw
                      case rel => exact ⟨k + 1, by omega, by go_num, hoi.trans ho7⟩
                      case measure => simp [intOf]; omega
                    · have d3 : (sq == 0) = false := beq_eq_false_iff_ne.2 hz
                      have d3' : (sq != 0) = true := bne_iff_ne.2 hz
                      go_wp2_with (first | (go_at_call 24; with_reducible refine Grew.use HCSI.out (fun w7 ho7 => ?_)) | (go_at_call 17; with_reducible refine Grew.use (HCR.out _ ho7) (fun w8 ho8 => ?_)) | (go_at_call 17; with_reducible refine Grew.use (HCR'.out _ (ho7.trans ho8)) (fun w9 ho9 => ?_)))
                      go_roundw
                      case rel => exact ⟨i + 1, by omega, by go_num, hoi.trans (ho7.trans (ho8.trans ho9))⟩
                      case measure => simp [intOf]; omega
                  · have e : i = 32 := by omega
                    have d2 : decide (8 * (i : Int) < 256) = false := decide_eq_false (by omega)
                    go_wp2_with fail
                    go_roundw
                    case rel => exact ⟨k + 1, by omega, by go_num, hoi⟩
                    case measure => simp [intOf]; omega
              · have D : Hid ((decide (a ≤ (k : Int)) = false) ∨ (decide (a ≤ (k : Int)) = true ∧ decide ((k : Int) - a < b) = false)) := by
                  show _ ∨ _
                  by_cases h1 : a ≤ (k : Int)
                  · exact .inr ⟨decide_eq_true h1, decide_eq_false (fun h => hi ⟨h1, h⟩)⟩
                  · exact .inl (decide_eq_false h1)
                rw [show (m.setR a b 1).st k = m.st k by (show (if _ then (1 : Int) else _) = _; rw [if_neg (by omega)])] at CS
                have hv := HS.out.good.s1 k
                generalize m.st k = sv at *
                have HCS := Lib.hid CS
                have HCS' := Lib.hid CS'
                clear CS CS'
                have HRD := Lib.hid (fun i (h : i < 32) => rd_out (m := m) hi (by have := HN.out; omega : k < m.n) h)
                clear hi hv
                rcases D.out with e1 | ⟨e1, e2⟩
                all_goals
                  clear D
                  go_wp2_with (first | (go_at_call 21; with_reducible refine Still.use HCP.out ?_) | (go_at_call 24; with_reducible refine Grew.use (HCS.out _ (Only.refl _ _)) (fun w5 ho5 => ?_)) | (go_at_call 24; with_reducible refine Grew.use (HCS'.out _ ho5) (fun w6 ho6 => ?_)))
                  have hs5 := ho.trans (ho5.trans ho6)
                  go_loopw [17] (fun t wr => ∃ i : Nat, i ≤ 32 ∧ t = .int .i64 (8 * (i : Int)) ∧ Only [] w4 wr) (fun t _ => 300 - (intOf t).toNat)
                  case atStart => exact ⟨0, by omega, rfl, hs5⟩
                  case round =>
                    obtain ⟨i, hi2, rfl, hoi⟩ := hrel
                    have hoiW := hoF.trans hoi
                    by_cases hlt2 : i < 32
                    · have d2 : decide (8 * (i : Int) < 256) = true := decide_eq_true (by omega)
                      have CSI := State_any (HE.out.only hoiW (by simp)) (HS.out.still hoi) k (by unfold I64; omega)
                      rw [show (m.setR a b 1).stateOf k = (m.setR a b 1).st k from if_neg (by have := HN.out; show ¬ ((k : Int) < 0 ∨ (m.n : Int) ≤ k); omega)] at CSI
                      have CR := fun W (h1 : Only [] wr W) => Read_any (HE.out.only (hoiW.trans h1) (by simp)) (HS.out.still (hoi.trans h1)) ((k : Int) * 256 + 8 * (i : Int)) (by unfold I64; omega)
                      have CR' := fun W (h1 : Only [] wr W) => Read_any (HE.out.only (hoiW.trans h1) (by simp)) (HT.out.still (hoi.trans h1)) ((k : Int) * 256 + 8 * (i : Int)) (by unfold I64; omega)
                      have hrd := HRD.out i hlt2
                      rw [show (if (m.setR a b 1).acc ((k : Int) * 256 + 8 * (i : Int)) 1 = 0 then (m.setR a b 1).h (((k : Int) * 256 + 8 * (i : Int)) / 8) else 0) = (m.setR a b 1).rd k i from rfl, hrd] at CR
                      rw [show (if m.acc ((k : Int) * 256 + 8 * (i : Int)) 1 = 0 then m.h (((k : Int) * 256 + 8 * (i : Int)) / 8) else 0) = m.rd k i from rfl] at CR'
                      clear hrd
                      generalize m.rd k i = rv at *
                      generalize (m.setR a b 1).acc ((k : Int) * 256 + 8 * (i : Int)) 1 = q1 at *
                      generalize m.acc ((k : Int) * 256 + 8 * (i : Int)) 1 = q2 at *
                      generalize (m.setR a b 1).st k = sq at *
                      have HCSI := Lib.hid CSI
                      have HCR := Lib.hid CR
                      have HCR' := Lib.hid CR'
                      clear CSI CR CR'
                      by_cases hz : sq = 0
                      · have d3 : (sq == 0) = true := beq_iff_eq.2 hz
                        subst hz
                        go_wp2_with (first | (go_at_call 24; with_reducible refine Grew.use HCSI.out (fun w7 ho7 => ?_)))
                        go_roundw
                        case rel => exact ⟨k + 1, by omega, by go_num, hoi.trans ho7⟩
                        case measure => simp [intOf]; omega
                      · have d3 : (sq == 0) = false := beq_eq_false_iff_ne.2 hz
                        have d3' : (sq != 0) = true := bne_iff_ne.2 hz
                        go_wp2_with (first | (go_at_call 24; with_reducible refine Grew.use HCSI.out (fun w7 ho7 => ?_)) | (go_at_call 17; with_reducible refine Grew.use (HCR.out _ ho7) (fun w8 ho8 => ?_)) | (go_at_call 17; with_reducible refine Grew.use (HCR'.out _ (ho7.trans ho8)) (fun w9 ho9 => ?_)))
                        go_roundw
                        case rel => exact ⟨i + 1, by omega, by go_num, hoi.trans (ho7.trans (ho8.trans ho9))⟩
                        case measure => simp [intOf]; omega
                    · have e : i = 32 := by omega
                      have d2 : decide (8 * (i : Int) < 256) = false := decide_eq_false (by omega)
                      go_wp2_with fail
                      go_roundw
                      case rel => exact ⟨k + 1, by omega, by go_num, hoi⟩
                      case measure => simp [intOf]; omega
            · have e : k = N := by omega
              have d1 : decide ((k : Int) < N) = false := decide_eq_false (by omega)
              go_wp2_with (first | (go_at_call 21; with_reducible refine Still.use HCP.out ?_) | (go_at_call 14; with_reducible refine Grew.use (alive_any _ (HE.out.only hoW (by simp))) (fun w8 ho8 => ?_)))
              go_ret
              exact ⟨rfl, hoW.trans ho8⟩
    · have d0 : (m.leaveE a b == 0) = false := beq_eq_false_iff_ne.2 h0
      have d0' : (m.leaveE a b != 0) = true := bne_iff_ne.2 h0
      clear hs3 ht3 h0
      generalize m.leaveE a b = ee at *
      go_wp2_with (first | (go_at_call 14; with_reducible refine Grew.use (alive_any _ HE3) (fun w5 ho5 => ?_)))
      go_ret
      exact ⟨rfl, ho3.trans ho5⟩
end Go.Proofs.YtmalmkccgjeboaaDoor
