/- CentralOrder, walked. -/
import Derived.Test.YtlmjelcnldlagaaZMG
set_option linter.unusedVariables false
set_option linter.unusedSimpArgs false
namespace Go.Proofs.Ytlmjelcnldlagaa
open Go.RowKit

theorem putR_len {c : Cl} {M : List Sp} (hg : GoodL c M) (o : List Int) : (putR M o).length ≤ 1024 := by
  unfold putR
  split
  · have h1 := zk_len (freeTo M o o.length) (freeTo M o o.length).length
    have h2 := (freeTo_like M o o.length).1
    have h3 := hg.len
    show (zeroTo (freeTo M o o.length) (freeTo M o o.length).length).length ≤ 1024
    omega
  · simp

set_option maxRecDepth 100000 in
set_option maxHeartbeats 8000000 in
theorem CentralOrder_walk (w : World) (cx cy cz : Int) (_ : I64 cx) (_ : I64 cy) (_ : I64 cz) (A : Option Addr) (n cp : Nat) (l : List Ac7) (hr : ReadsA w A n l) (hn : n ≤ 9223372036854775807) (B : Option Addr) (nb cb : Nat) (o : List Int) (hro : ReadsI w B nb o) (hio : ∀ j, j < nb → I64 (iAt o j)) (hcb : nb ≤ cb) (hnb : nb ≤ 9223372036854775807) (a : Int) (ha : 0 ≤ a ∧ a ≤ 255) :
    Grew Try.prog 8 #[.agg #[.int .i64 cx, .int .i64 cy, .int .i64 cz], .slice A n cp, .slice B nb cb, .int .u8 a] w (.bool true) := by
  have hlen := hr.1
  have o1 := (Only.refl [] w).alloc (.cells #[.int .i64 cx, .int .i64 cy, .int .i64 cz] 23)
  have bC := Blk.new w 23 #[.int .i64 cx, .int .i64 cy, .int .i64 cz]
  have CG := Lib.hid (great_any (w.alloc (.cells #[.int .i64 cx, .int .i64 cy, .int .i64 cz] 23)) A n cp l (hr.still o1) hn)
  have CM := Lib.hid (fun W (h : Only [] w W) (h60 : ∀ j, j < n → (xAt l j).n ≤ 60) => lmadeOf_any W ⟨cx, cy, cz⟩ A n cp l (hr.still h) hn h60)
  have HO1 := Lib.hid o1
  have HRO := Lib.hid hro
  have HIO := Lib.hid hio
  have HOL := Lib.hid hro.1
  have HBO := Lib.hid (show 0 < nb → ∀ ad, B = some ad → ad.block < w.heap.size from fun h0 ad e => by
    obtain ⟨ad', e', hc⟩ := hro.2 h0
    rw [e] at e'
    injection e' with e'
    subst e'
    have := World.block_lt_of_cell? w _ (hc 0 h0)
    unfold Addr.add at this
    split at this <;> exact this)
  obtain ⟨m, rfl⟩ : ∃ m : Nat, a = m := ⟨a.toNat, by omega⟩
  clear hro hio
  cases hg : greatOf l with
  | true =>
    rw [hg] at CG
    clear hr hlen bC
    go_enter Try.func8, Try.ntmps8
    go_wp2_with (first | (go_at_call 13; with_reducible refine Still.use CG.out ?_) | (go_at_call 14; with_reducible refine Grew.use (alive_any _) (fun w5 ho5 => ?_)))
    go_ret
    exact ⟨rfl, HO1.out.trans ho5⟩
  | false =>
    rw [hg] at CG
    have h60 : ∀ j, j < n → (xAt l j).n ≤ 60 := fun j hj => (greatOf_false hg).2 j (by rw [hlen]; exact hj)
    have H60 := Lib.hid h60
    have b0 := bC.drew
    clear hr hlen bC hg h60
    obtain ⟨i0, hi, hz0, hz1, hz2⟩ := info_parts info_int
    by_cases hnb60 : 60 < nb
    · have d0 : decide ((60 : Int) < (nb : Int)) = true := decide_eq_true (by omega)
      have d0' : decide (60 < nb) = true := decide_eq_true hnb60
      go_enter Try.func8, Try.ntmps8
      go_wp2_with (first | (go_at_call 13; with_reducible refine Still.use CG.out ?_) | (go_at_call 14; with_reducible refine Grew.use (alive_any _) (fun w5 ho5 => ?_)))
      go_ret
      exact ⟨rfl, HO1.out.trans ho5⟩
    have d0 : decide ((60 : Int) < (nb : Int)) = false := decide_eq_false (by omega)
    have d0' : decide (60 < nb) = false := decide_eq_false hnb60
    by_cases hok : (⟨cx, cy, cz⟩ : Cl).ok
    · have HOK := Lib.hid hok
      clear hok
      go_enter Try.func8, Try.ntmps8
      go_wp2_with (first | (go_at_call 13; with_reducible refine Still.use CG.out ?_))
      generalize w.alloc (.cells #[.int .i64 cx, .int .i64 cy, .int .i64 cz] 23) = w1 at *
      have CMA := Lib.hid (CM.out w1.drew HO1.out.drew H60.out)
      have CMB := Lib.hid (fun W (h : Only [] w W) => CM.out W h H60.out)
      clear CM CG
      go_region_held3 (fun w' => w'.cell? ⟨w.heap.size, 0, none⟩ = some (.int .i64 cx) ∧ w'.cell? ⟨w.heap.size, 1, none⟩ = some (.int .i64 cy) ∧ w'.cell? ⟨w.heap.size, 2, none⟩ = some (.int .i64 cz))
        (refine ⟨Blk.cell_ (t := 23) (cs := #[.int .i64 cx, .int .i64 cy, .int .i64 cz]) ?_ 0 rfl, Blk.cell_ (t := 23) (cs := #[.int .i64 cx, .int .i64 cy, .int .i64 cz]) ?_ 1 rfl, Blk.cell_ (t := 23) (cs := #[.int .i64 cx, .int .i64 cy, .int .i64 cz]) ?_ 2 rfl⟩ <;> assumption)
        (first
          | (go_at_call 15; with_reducible refine Calls.mono CMA.out ?_; rintro e w2 ⟨ho2, h1, _⟩; obtain ⟨P, bl, rfl, hst, hbl⟩ := h1 HOK.out; have o2 := HO1.out.drew.trans ho2; have b2 := b0.only ho2 (by simp); have HST := Lib.hid hst; have HBL := Lib.hid hbl; clear h1 hst hbl)
          | (go_at_call 15; with_reducible refine Calls.mono (CMB.out w2 o2) ?_; rintro e w3 ⟨ho3, h1, _⟩; obtain ⟨Q, bl', rfl, hst', hbl'⟩ := h1 HOK.out; have o3 := o2.trans ho3; have b3 := b2.only ho3 (by simp); have HST' := Lib.hid hst'; have HBL' := Lib.hid hbl'; clear h1 hst' hbl'))
      generalize acts ⟨cx, cy, cz⟩ [] l n = M at *
      have hw1 : w.heap.size ≤ w1.drew.heap.size := HO1.out.drew.size
      have hw2 : w1.drew.heap.size ≤ w2.heap.size := ho2.size
      have hw3 : w2.heap.size ≤ w3.heap.size := ho3.size
      have hPl : ∀ b ∈ bl, b < w2.heap.size := HST.out.lt
      have hQl : ∀ b ∈ bl', b < w3.heap.size := HST'.out.lt
      have HPL := Lib.hid hPl
      have HQL := Lib.hid hQl
      have HG := Lib.hid HST.out.goodL
      have HS3 := Lib.hid (HST.out.still ho3)
      have HO3 := Lib.hid o3
      clear CMA CMB hPl hQl b0 b2 b3 HST o2 ho2 ho3 o3
      go_wp2_with fail
      go_loopw [11, 12] (fun u t wr => ∃ k : Nat, k ≤ nb ∧ t = .int .i64 k ∧ Only [] w3 wr ∧ wr.ownsRow w3.heap.size 3 1 u k ((rotTo o m k).map (Value.int .i64))) (fun _ t _ => nb - (intOf t).toNat)
      case atStart => exact ⟨0, Nat.zero_le _, rfl, Only.refl _ _, World.ownsRow_nil _ _ _ _⟩
      case round =>
        obtain ⟨k, hk, rfl, ho, hown⟩ := hrel
        obtain ⟨A', c', rfl, _⟩ := own_slice hown
        by_cases hlt : k < nb
        · have d1 : decide ((k : Int) < nb) = true := decide_eq_true (by omega)
          obtain ⟨ad, rfl, hc⟩ := (HRO.out.still (HO3.out.trans ho)).2 (by omega)
          have hrn : (k + m) % nb < nb := Nat.mod_lt _ (by omega)
          have x0 : wr.cell? (ad.add ((k + m) % nb)) = some (.int .i64 (iAt o ((k + m) % nb))) := hc _ hrn
          have q1 : ((k : Int) + (m : Int)).tmod (nb : Int) = (((k + m) % nb : Nat) : Int) := by
            rw [Int.tmod_eq_emod_of_nonneg (by omega)]
            push_cast
            rfl
          have HX : Hid (rotTo o m (k + 1) = rotTo o m k ++ [iAt o ((k + m) % nb)]) := Lib.hid (by rw [rotTo, HOL.out])
          have hsz := ho.size
          clear hc
          generalize iAt o ((k + m) % nb) = x at *
          generalize (k + m) % nb = r at *
          generalize rotTo o m k = L at *
          go_wp2_with (at_builtin; refine wpList_append_own _ rfl _ _ 25 rfl w3.heap.size 3 i0 (.int .i64 0) 1 8 Try.underlying25 hi hz0 hz1 hz2 rfl (by decide) _ _ _ rfl (hown.alloc _) ⟨wr.heap.size, 0, none⟩ 1 1 [.int .i64 x] rfl rfl (cell_new1 wr _ _) (by simp; rfl) (by unfold maxLen; omega) (by omega) (by simp; omega) ?_; intro v1 w4 hown4 hg4 _)
          go_roundw
          case rel => exact ⟨k + 1, by omega, by go_num, (ho.alloc _).grown hg4 (fun b hb => .inr (own_base hown b hb)), by rw [HX.out, List.map_append]; exact hown4⟩
          case measure => simp [intOf]; omega
        · have e : k = nb := by omega
          subst e
          have d1 : decide ((k : Int) < k) = false := decide_eq_false (by omega)
          have HPERM := Lib.hid (by have := rotTo_perm o m; rw [HOL.out] at this; exact this)
          have HLEN := Lib.hid (rotTo_len o m k)
          have HOWN := Lib.hid hown
          have HOW := Lib.hid ho
          generalize rotTo o m k = L0 at *
          clear hown ho
          obtain ⟨p2, hp2, hp21⟩ : ∃ p2 : Nat, (m : Int).tmod 2 = (p2 : Int) ∧ p2 ≤ 1 := ⟨m % 2, by rw [Int.tmod_eq_emod_of_nonneg (by omega)]; omega, by omega⟩
          go_wp2_with fail
          go_loopw [13, 14] (fun s t wr => ∃ (i : Nat) (y : Int) (L : List Int), i ≤ k ∧ s = .int .i64 i ∧ t = .int .i64 y ∧ y = (k : Int) - 1 - i ∧ L.Perm o ∧ L.length = k ∧ Only [] w3 wr ∧ wr.ownsRow w3.heap.size 3 1 (.slice A' k c') k (L.map (Value.int .i64))) (fun s _ _ => k - (intOf s).toNat)
          case atStart => exact ⟨0, _, L0, Nat.zero_le _, rfl, rfl, by simp, HPERM.out, HLEN.out, HOW.out, HOWN.out⟩
          case round =>
            clear HPERM HLEN HOWN HOW
            obtain ⟨i, y, L, hik, rfl, rfl, hy, hperm, hlenL, ho, hown⟩ := hrel
            by_cases hgo : p2 = 1 ∧ (i : Int) < y
            · obtain ⟨rfl, hiy⟩ := hgo
              obtain ⟨j, rfl⟩ : ∃ j : Nat, y = j := ⟨y.toNat, by omega⟩
              have d2 : decide ((i : Int) < (j : Int)) = true := decide_eq_true hiy
              have hjk : j < k := by omega
              have hik2 : i < k := by omega
              have hij : i < j := by omega
              obtain ⟨g, c2, e1, _⟩ := own_form hown (by omega)
              injection e1 with e1 _ e3
              subst e1 e3
              have xi : wr.cell? ⟨g, i, none⟩ = some (.int .i64 (iAt L i)) := own_int hown hik2
              have xj : wr.cell? ⟨g, j, none⟩ = some (.int .i64 (iAt L j)) := own_int hown hjk
              have fi := hown.frozenAt i
              have fj := hown.frozenAt j
              have HSW := Lib.hid ((swap_perm L i j (by omega) (by omega)).trans hperm)
              have HSL : Hid (((L.set i (iAt L j)).set j (iAt L i)).length = k) := Lib.hid (by rw [List.length_set, List.length_set]; exact hlenL)
              have HOW := Lib.hid (own_set (own_set hown i (.int .i64 (iAt L j))) j (.int .i64 (iAt L i)))
              have HMP : Hid (((L.set i (iAt L j)).set j (iAt L i)).map (Value.int .i64) = ((L.map (Value.int .i64)).set i (.int .i64 (iAt L j))).set j (.int .i64 (iAt L i))) := Lib.hid (by rw [List.map_set, List.map_set])
              have hbase := own_base hown g rfl
              have HO := Lib.hid ho
              have HY := Lib.hid hy
              clear hown ho hperm hlenL hy
              generalize (L.set i (iAt L j)).set j (iAt L i) = L2 at *
              generalize iAt L i = xi' at *
              generalize iAt L j = xj' at *
              go_wp2_with fail
              go_region
              have ho2 := ((HO.out.setCell (p := ⟨g, i, none⟩) (.inr hbase) (.int .i64 xj')).setCell (p := ⟨g, j, none⟩) (.inr hbase) (.int .i64 xi')).drew
              have hown2 := HOW.out.drew
              rw [← HMP.out] at hown2
              go_wp2_with fail
              go_roundw
              case rel => exact ⟨i + 1, (j : Int) - 1, L2, by omega, by go_num, by go_num, by have := HY.out; omega, HSW.out, HSL.out, ho2, hown2⟩
              case measure => simp [intOf]; omega
            · obtain ⟨A2, c2, e2, hrd, hbs⟩ := own_reads hown
              injection e2 with e2 _ e3
              subst e2 e3
              have hlc := own_le hown
              have CPA := Lib.hid (lPut_at (HS3.out.still ho) B k cb o (HRO.out.still (HO3.out.trans ho)) HIO.out (by omega) hcb (fun h0 ad e hb => by
                have a1 := HBO.out h0 ad e
                have a2 : w1.drew.heap.size ≤ _ := HBL.out _ hb
                omega))
              have HIL := Lib.hid (fun j (hj : j < k) => show I64 (iAt L j) from by
                obtain ⟨q, q1, q2⟩ := mem_iAt (hperm.mem_iff.1 (iAt_mem (show j < L.length by omega)))
                rw [← q2]
                exact HIO.out q (by rw [← HOL.out]; exact q1))
              have HPP := Lib.hid (put_perm HG.out hperm)
              have HRL := Lib.hid (putR_len HG.out o)
              have HOWN := Lib.hid hown
              have HO := Lib.hid ho
              have hsz := ho.size
              have hgo' : p2 = 0 ∨ (p2 = 1 ∧ decide ((i : Int) < y) = false) := by
                rcases Nat.eq_zero_or_pos p2 with h | h
                · exact .inl h
                · exact .inr ⟨by omega, decide_eq_false (fun hlt => hgo ⟨by omega, hlt⟩)⟩
              clear hown hrd hgo hy hperm ho hlenL
              rcases hgo' with rfl | ⟨rfl, d2⟩
              · go_wp2_with fail
                with_reducible refine Calls.mono CPA.out ?_
                rintro e w4 ⟨v1, rfl, hoA, hstA, hown1⟩
                have hownA := own_only HOWN.out hoA (fun x hx hxb => by
                  have a1 := own_base HOWN.out x hx
                  have a2 := HPL.out x hxb
                  omega)
                obtain ⟨A3, c3, e2, hrdA, hbsA⟩ := own_reads hownA
                injection e2 with e2 _ e3
                subst e2 e3
                have hstB := (HST'.out.still HO.out).only hoA (fun b hb hb' => by
                  have a1 : w2.heap.size ≤ b := HBL'.out b hb
                  have a2 := HPL.out b hb'
                  omega)
                have o4 : Only [] w w4 := (HO3.out.trans HO.out).then_ hoA (fun b hb => .inr (by
                  have a1 : w1.drew.heap.size ≤ b := HBL.out b hb
                  omega))
                have CPB := Lib.hid (lPut_at hstB A' k c' L hrdA HIL.out (by omega) hlc (fun h0 ad e hb => by
                  have a1 := hbsA ad e
                  have a2 := HQL.out _ hb
                  omega))
                rw [HPP.out.1, HPP.out.2.1, HPP.out.2.2] at CPB
                have HSA := Lib.hid hstA
                have HR1 := Lib.hid hown1
                have hz4 := hoA.size
                clear hstA hown1 hownA hrdA hstB CPA hbsA HPP hbs
                generalize putE M o = E at *
                go_wp2_with fail
                with_reducible refine Calls.mono CPB.out ?_
                rintro e w5 ⟨v2, rfl, hoB, hstB, hown2⟩
                have o5 : Only [] w w5 := o4.then_ hoB (fun b hb => .inr (by
                  have a1 : w2.heap.size ≤ b := HBL'.out b hb
                  omega))
                have hstA := HSA.out.only hoB (fun b hb hb' => by
                  have a1 := HPL.out b hb
                  have a2 : w2.heap.size ≤ b := HBL'.out b hb'
                  omega)
                have hown1 := own_only HR1.out hoB (fun x hx hxb => by
                  have a1 := own_base HR1.out x hx
                  have a2 := HQL.out x hxb
                  omega)
                have CR := Lib.hid (Runs_eq w5 v1 v2 _ _ (own_readsR hown1 rfl) (own_readsR hown2 rfl) (by have := HRL.out; omega))
                have CA := Lib.hid (fun W (h : Only [] w5 W) => lalike_any (hstA.still h) (hstB.still h))
                have dE : (E == E) = true := by simp
                clear hown1 hown2 hstA hstB CPB
                go_wp2_with (first
                  | (go_at_call 30; with_reducible refine Grew.use CR.out (fun w6 ho6 => ?_))
                  | (go_at_call 29; with_reducible refine Grew.use (CA.out w6 ho6) (fun w7 ho7 => ?_))
                  | (go_at_call 14; with_reducible refine Grew.use (alive_any _) (fun w8 ho8 => ?_)))
                go_ret
                exact ⟨rfl, ((o5.trans ho6).trans ho7).trans ho8⟩
              · go_wp2_with fail
                with_reducible refine Calls.mono CPA.out ?_
                rintro e w4 ⟨v1, rfl, hoA, hstA, hown1⟩
                have hownA := own_only HOWN.out hoA (fun x hx hxb => by
                  have a1 := own_base HOWN.out x hx
                  have a2 := HPL.out x hxb
                  omega)
                obtain ⟨A3, c3, e2, hrdA, hbsA⟩ := own_reads hownA
                injection e2 with e2 _ e3
                subst e2 e3
                have hstB := (HST'.out.still HO.out).only hoA (fun b hb hb' => by
                  have a1 : w2.heap.size ≤ b := HBL'.out b hb
                  have a2 := HPL.out b hb'
                  omega)
                have o4 : Only [] w w4 := (HO3.out.trans HO.out).then_ hoA (fun b hb => .inr (by
                  have a1 : w1.drew.heap.size ≤ b := HBL.out b hb
                  omega))
                have CPB := Lib.hid (lPut_at hstB A' k c' L hrdA HIL.out (by omega) hlc (fun h0 ad e hb => by
                  have a1 := hbsA ad e
                  have a2 := HQL.out _ hb
                  omega))
                rw [HPP.out.1, HPP.out.2.1, HPP.out.2.2] at CPB
                have HSA := Lib.hid hstA
                have HR1 := Lib.hid hown1
                have hz4 := hoA.size
                clear hstA hown1 hownA hrdA hstB CPA hbsA HPP hbs
                generalize putE M o = E at *
                go_wp2_with fail
                with_reducible refine Calls.mono CPB.out ?_
                rintro e w5 ⟨v2, rfl, hoB, hstB, hown2⟩
                have o5 : Only [] w w5 := o4.then_ hoB (fun b hb => .inr (by
                  have a1 : w2.heap.size ≤ b := HBL'.out b hb
                  omega))
                have hstA := HSA.out.only hoB (fun b hb hb' => by
                  have a1 := HPL.out b hb
                  have a2 : w2.heap.size ≤ b := HBL'.out b hb'
                  omega)
                have hown1 := own_only HR1.out hoB (fun x hx hxb => by
                  have a1 := own_base HR1.out x hx
                  have a2 := HQL.out x hxb
                  omega)
                have CR := Lib.hid (Runs_eq w5 v1 v2 _ _ (own_readsR hown1 rfl) (own_readsR hown2 rfl) (by have := HRL.out; omega))
                have CA := Lib.hid (fun W (h : Only [] w5 W) => lalike_any (hstA.still h) (hstB.still h))
                have dE : (E == E) = true := by simp
                clear hown1 hown2 hstA hstB CPB
                go_wp2_with (first
                  | (go_at_call 30; with_reducible refine Grew.use CR.out (fun w6 ho6 => ?_))
                  | (go_at_call 29; with_reducible refine Grew.use (CA.out w6 ho6) (fun w7 ho7 => ?_))
                  | (go_at_call 14; with_reducible refine Grew.use (alive_any _) (fun w8 ho8 => ?_)))
                go_ret
                exact ⟨rfl, ((o5.trans ho6).trans ho7).trans ho8⟩
    · have HOK := Lib.hid hok
      clear hok
      go_enter Try.func8, Try.ntmps8
      go_wp2_with (first | (go_at_call 13; with_reducible refine Still.use CG.out ?_))
      generalize w.alloc (.cells #[.int .i64 cx, .int .i64 cy, .int .i64 cz] 23) = w1 at *
      have CMA := Lib.hid (CM.out w1.drew HO1.out.drew H60.out)
      have CMB := Lib.hid (fun W (h : Only [] w W) => CM.out W h H60.out)
      clear CM CG
      go_region_held3 (fun w' => w'.cell? ⟨w.heap.size, 0, none⟩ = some (.int .i64 cx) ∧ w'.cell? ⟨w.heap.size, 1, none⟩ = some (.int .i64 cy) ∧ w'.cell? ⟨w.heap.size, 2, none⟩ = some (.int .i64 cz))
        (refine ⟨Blk.cell_ (t := 23) (cs := #[.int .i64 cx, .int .i64 cy, .int .i64 cz]) ?_ 0 rfl, Blk.cell_ (t := 23) (cs := #[.int .i64 cx, .int .i64 cy, .int .i64 cz]) ?_ 1 rfl, Blk.cell_ (t := 23) (cs := #[.int .i64 cx, .int .i64 cy, .int .i64 cz]) ?_ 2 rfl⟩ <;> assumption)
        (first
          | (go_at_call 15; with_reducible refine Calls.mono CMA.out ?_; rintro e w2 ⟨ho2, _, h1⟩; rw [h1 HOK.out]; have o2 := HO1.out.drew.trans ho2; have b2 := b0.only ho2 (by simp); clear h1)
          | (go_at_call 15; with_reducible refine Calls.mono (CMB.out w2 o2) ?_; rintro e w3 ⟨ho3, _, h1⟩; rw [h1 HOK.out]; have o3 := o2.trans ho3; have b3 := b2.only ho3 (by simp); clear h1))
      go_wp2_with (first | (go_at_call 14; with_reducible refine Grew.use (alive_any _) (fun w5 ho5 => ?_)))
      go_ret
      exact ⟨rfl, o3.trans ho5⟩
end Go.Proofs.Ytlmjelcnldlagaa
