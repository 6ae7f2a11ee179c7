/- CentralRefuses, walked. -/
import Derived.Test.YtlmjelcnldlagaaZLT
set_option linter.unusedVariables false
set_option linter.unusedSimpArgs false
namespace Go.Proofs.Ytlmjelcnldlagaa
open Go.RowKit

theorem act_err {c : Cl} {M : List Sp} {x : Ac7} (h : actE c M x ≠ 0) : actM c M x = M := by
  unfold actE at h
  unfold actM
  by_cases k0 : x.k = 0
  · rw [if_pos k0] at h ⊢
    rw [addM, if_neg h]
  rw [if_neg k0] at h ⊢
  by_cases k1 : x.k = 1
  · rw [if_pos k1] at h ⊢
    by_cases ha : x.a < 0
    · rw [if_pos ha]
    · rw [if_neg ha] at h; exact absurd rfl h
  rw [if_neg k1] at h ⊢
  by_cases k2 : x.k = 2
  · rw [if_pos k2] at h ⊢
    rw [putM, if_neg h]
  rw [if_neg k2] at h ⊢
  by_cases k3 : x.k = 3
  · rw [if_pos k3] at h; exact absurd rfl h
  rw [if_neg k3]
theorem act_ask {c : Cl} {M : List Sp} {x : Ac7} (h : 3 < x.k) : actM c M x = M := by
  unfold actM
  rw [if_neg (by omega), if_neg (by omega), if_neg (by omega), if_neg (by omega)]
theorem reads_one (w : World) (x : Ac7) (hx : x.okAt w) : ReadsA (w.alloc (.cells #[.int .i64 x.k, .int .i64 x.a, .slice x.B x.n x.cap] 47)) (some ⟨w.heap.size, 0, none⟩) 1 [x] := by
  have b := Blk.new w 47 #[.int .i64 x.k, .int .i64 x.a, .slice x.B x.n x.cap]
  refine ⟨rfl, fun j hj => ?_, fun _ => ⟨_, rfl, fun j hj => ?_⟩⟩
  · obtain rfl : j = 0 := by omega
    exact hx.still ((Only.refl [] w).alloc _)
  · obtain rfl : j = 0 := by omega
    exact ⟨b.cell_ 0 rfl, b.cell_ 1 rfl, b.cell_ 2 rfl⟩
theorem greatOf_one {x : Ac7} (h : greatOf [x] = false) : x.n ≤ 60 := (greatOf_false h).2 0 Nat.one_pos

set_option maxRecDepth 100000 in
set_option maxHeartbeats 8000000 in
theorem CentralRefuses_walk (w : World) (cx cy cz : Int) (_ : I64 cx) (_ : I64 cy) (_ : I64 cz) (A : Option Addr) (n cp : Nat) (l : List Ac7) (hr : ReadsA w A n l) (hn : n ≤ 9223372036854775807) (x : Ac7) (hx : x.okAt w) :
    Grew Try.prog 9 #[.agg #[.int .i64 cx, .int .i64 cy, .int .i64 cz], .slice A n cp, x.val] w (.bool true) := by
  have hlen := hr.1
  have hold := hx.old
  obtain ⟨w0, hw0⟩ : ∃ w0, w0 = (w.alloc (.cells #[.int .i64 cx, .int .i64 cy, .int .i64 cz] 23)).alloc (.cells #[.int .i64 x.k, .int .i64 x.a, .slice x.B x.n x.cap] 47) := ⟨_, rfl⟩
  have oB : Only [] w w0 := by rw [hw0]; exact ((Only.refl [] w).alloc _).alloc _
  have bC : Blk w0 w.heap.size 23 #[.int .i64 cx, .int .i64 cy, .int .i64 cz] := by rw [hw0]; exact (Blk.new w _ _).alloc _
  have bX : Blk w0 (w.heap.size + 1) 47 #[.int .i64 x.k, .int .i64 x.a, .slice x.B x.n x.cap] := by rw [hw0]; simpa using Blk.new (w.alloc (.cells #[.int .i64 cx, .int .i64 cy, .int .i64 cz] 23)) 47 #[.int .i64 x.k, .int .i64 x.a, .slice x.B x.n x.cap]
  have HX := Lib.hid hx
  have CG := Lib.hid (great_any w0 A n cp l (hr.still oB) hn)
  have CG2 := Lib.hid (fun W (h : Only [] w W) => great_any (W.alloc (.cells #[.int .i64 x.k, .int .i64 x.a, .slice x.B x.n x.cap] 47)) (some ⟨W.heap.size, 0, none⟩) 1 1 [x] (reads_one W x (HX.out.still h)) (by omega))
  have CM := Lib.hid (fun W (h : Only [] w W) (h60 : ∀ j, j < n → (xAt l j).n ≤ 60) => lmadeOf_any W ⟨cx, cy, cz⟩ A n cp l (hr.still h) hn h60)
  have HOB := Lib.hid oB
  have HBC := Lib.hid bC
  have HBX := Lib.hid bX
  have HL := Lib.hid hlen
  have HOLD := Lib.hid hold
  have HW0 := Lib.hid hw0
  have x0 := bX.cell_ 0 rfl
  have x1 := bX.cell_ 1 rfl
  have x2 := bX.cell_ 2 rfl
  have y0 := bC.cell_ 0 rfl
  have y1 := bC.cell_ 1 rfl
  have y2 := bC.cell_ 2 rfl
  unfold Ac7.val
  cases hg : greatOf l with
  | true =>
    rw [hg] at CG
    clear hr hx hlen hold oB bC bX hw0
    go_enter Try.func9, Try.ntmps9
    go_wp2_with fail
    rw [← HW0.out]
    go_wp2_with (first | (go_at_call 13; with_reducible refine Still.use CG.out ?_) | (go_at_call 14; with_reducible refine Grew.use (alive_any _) (fun w5 ho5 => ?_)))
    go_ret
    exact ⟨rfl, HOB.out.trans ho5⟩
  | false =>
    rw [hg] at CG
    have h60 : ∀ j, j < n → (xAt l j).n ≤ 60 := fun j hj => (greatOf_false hg).2 j (by rw [HL.out]; exact hj)
    have H60 := Lib.hid h60
    have CG3 := Lib.hid (CG2.out w0 oB)
    have o1 := oB.alloc (.cells #[.int .i64 x.k, .int .i64 x.a, .slice x.B x.n x.cap] 47)
    have bC1 := bC.alloc (.cells #[.int .i64 x.k, .int .i64 x.a, .slice x.B x.n x.cap] 47)
    have bX1 := bX.alloc (.cells #[.int .i64 x.k, .int .i64 x.a, .slice x.B x.n x.cap] 47)
    have hs0 : w.heap.size + 1 + 1 = w0.heap.size := by rw [hw0]; simp
    clear hr hx hlen hold oB bC bX hw0 h60 CG2
    cases hg2 : greatOf [x] with
    | true =>
      rw [hg2] at CG3
      clear hg2 hg
      go_enter Try.func9, Try.ntmps9
      go_wp2_with fail
      rw [← HW0.out]
      go_wp2_with (first | (go_at_call 13; with_reducible refine Still.use CG.out ?_) | (go_at_call 13; with_reducible refine Still.use CG3.out ?_) | (go_at_call 14; with_reducible refine Grew.use (alive_any _) (fun w5 ho5 => ?_)))
      go_ret
      exact ⟨rfl, o1.trans ho5⟩
    | false =>
      rw [hg2] at CG3
      have HX60 := Lib.hid (greatOf_one hg2)
      have HO1 := Lib.hid o1
      have HBC1 := Lib.hid bC1
      have HBX1 := Lib.hid bX1
      have hsz1 : w0.heap.size < (w0.alloc (.cells #[.int .i64 x.k, .int .i64 x.a, .slice x.B x.n x.cap] 47)).heap.size := by simp
      clear hg2 hg
      by_cases hok : (⟨cx, cy, cz⟩ : Cl).ok
      · have HOK := Lib.hid hok
        clear hok
        go_enter Try.func9, Try.ntmps9
        go_wp2_with fail
        rw [← HW0.out]
        go_wp2_with (first | (go_at_call 13; with_reducible refine Still.use CG.out ?_) | (go_at_call 13; with_reducible refine Still.use CG3.out ?_))
        generalize w0.alloc (.cells #[.int .i64 x.k, .int .i64 x.a, .slice x.B x.n x.cap] 47) = w1 at *
        have CMA := Lib.hid (CM.out w1.drew HO1.out.drew H60.out)
        have CMB := Lib.hid (fun W (h : Only [] w W) => CM.out W h H60.out)
        have b0 := HBC1.out.drew
        clear CM CG CG3 x0 x1 x2 y0 y1 y2 bC1 bX1 o1
        go_region_held3 (fun w' => w'.cell? ⟨w.heap.size, 0, none⟩ = some (.int .i64 cx) ∧ w'.cell? ⟨w.heap.size, 1, none⟩ = some (.int .i64 cy) ∧ w'.cell? ⟨w.heap.size, 2, none⟩ = some (.int .i64 cz))
          (refine ⟨Blk.cell_ (t := 23) (cs := #[.int .i64 cx, .int .i64 cy, .int .i64 cz]) ?_ 0 rfl, Blk.cell_ (t := 23) (cs := #[.int .i64 cx, .int .i64 cy, .int .i64 cz]) ?_ 1 rfl, Blk.cell_ (t := 23) (cs := #[.int .i64 cx, .int .i64 cy, .int .i64 cz]) ?_ 2 rfl⟩ <;> assumption)
          (first
            | (go_at_call 15; with_reducible refine Calls.mono CMA.out ?_; rintro e w2 ⟨ho2, h1, _⟩; obtain ⟨P, bl, rfl, hst, hbl⟩ := h1 HOK.out; have o2 := HO1.out.drew.trans ho2; have b2 := b0.only ho2 (by simp); have HST := Lib.hid hst; have HBL := Lib.hid hbl; clear h1 hst hbl)
            | (go_at_call 15; with_reducible refine Calls.mono (CMB.out w2 o2) ?_; rintro e w3 ⟨ho3, h1, _⟩; obtain ⟨Q, bl', rfl, hst', hbl'⟩ := h1 HOK.out; have o3 := o2.trans ho3; have b3 := b2.only ho3 (by simp); have HST' := Lib.hid hst'; have HBL' := Lib.hid hbl'; clear h1 hst' hbl'))
        generalize acts ⟨cx, cy, cz⟩ [] l n = M at *
        have bX3 := HBX1.out.only (((Only.refl [] w1).drew.trans ho2).trans ho3) (by simp)
        have HBX3 := Lib.hid bX3
        have x0 := bX3.cell_ 0 rfl
        have x1 := bX3.cell_ 1 rfl
        have x2 := bX3.cell_ 2 rfl
        have hz1 : w1.heap.size ≤ w2.heap.size := ((Only.refl [] w1).drew.trans ho2).size
        have CD := Lib.hid (ldo_any (HST.out.still ho3) x (HX.out.still o3) HX60.out (fun h0 ad e hb => by
          have a1 := HOLD.out h0 ad e
          have a2 : w1.heap.size ≤ _ := HBL.out _ hb
          omega))
        have HER := Lib.hid (fun h => act_err (c := ⟨cx, cy, cz⟩) (M := M) (x := x) h)
        have HAS := Lib.hid (fun h => act_ask (c := ⟨cx, cy, cz⟩) (M := M) (x := x) h)
        unfold Ac7.val at CD
        clear bX3 CMA CMB
        generalize actE ⟨cx, cy, cz⟩ M x = E at *
        go_wp2_with fail
        refine CD.out.mono ?_
        rintro e w4 ⟨rfl, hoD, bl4, hst4, hbl4⟩
        have o4 : Only [] w w4 := o3.then_ hoD (fun b hb => .inr (by
          have a2 : w1.heap.size ≤ b := HBL.out b hb
          omega))
        have hX4 := (HBX3.out.only hoD (fun hb => by
          have a2 : w1.heap.size ≤ _ := HBL.out _ hb
          omega)).cell_ 0 rfl
        have hstQ := HST'.out.only hoD (fun b hb hbl => by
          have a1 := HBL'.out b hb
          have a2 := HST.out.lt b hbl
          omega)
        have HL4 := Lib.hid (fun (h : actM ⟨cx, cy, cz⟩ M x = M) => lalike_any (M := M) (by rw [h] at hst4; exact hst4) hstQ)
        clear hst4 hstQ x0 x1 x2 CD
        by_cases hE : E = 0
        · subst hE
          by_cases hk : x.k ≤ 3
          · have dk : decide (x.k ≤ 3) = true := decide_eq_true hk
            go_wp2_with (first | (go_at_call 14; with_reducible refine Grew.use (alive_any _) (fun w5 ho5 => ?_)))
            go_ret
            exact ⟨rfl, o4.trans ho5⟩
          · have dk : decide (x.k ≤ 3) = false := decide_eq_false hk
            have CL := Lib.hid (HL4.out (HAS.out (by omega)))
            go_wp2_with (first | (go_at_call 29; with_reducible refine Grew.use CL.out (fun w5 ho5 => ?_)) | (go_at_call 14; with_reducible refine Grew.use (alive_any _) (fun w6 ho6 => ?_)))
            go_ret
            exact ⟨rfl, (o4.trans ho5).trans ho6⟩
        · have dE : (E == 0) = false := beq_eq_false_iff_ne.2 hE
          have CL := Lib.hid (HL4.out (HER.out hE))
          clear hE
          go_wp2_with (first | (go_at_call 29; with_reducible refine Grew.use CL.out (fun w5 ho5 => ?_)) | (go_at_call 14; with_reducible refine Grew.use (alive_any _) (fun w6 ho6 => ?_)))
          go_ret
          exact ⟨rfl, (o4.trans ho5).trans ho6⟩
      · have HOK := Lib.hid hok
        clear hok
        go_enter Try.func9, Try.ntmps9
        go_wp2_with fail
        rw [← HW0.out]
        go_wp2_with (first | (go_at_call 13; with_reducible refine Still.use CG.out ?_) | (go_at_call 13; with_reducible refine Still.use CG3.out ?_))
        generalize w0.alloc (.cells #[.int .i64 x.k, .int .i64 x.a, .slice x.B x.n x.cap] 47) = w1 at *
        have CMA := Lib.hid (CM.out w1.drew HO1.out.drew H60.out)
        have CMB := Lib.hid (fun W (h : Only [] w W) => CM.out W h H60.out)
        have b0 := HBC1.out.drew
        clear CM CG CG3 x0 x1 x2 y0 y1 y2 bC1 bX1 o1
        go_region_held3 (fun w' => w'.cell? ⟨w.heap.size, 0, none⟩ = some (.int .i64 cx) ∧ w'.cell? ⟨w.heap.size, 1, none⟩ = some (.int .i64 cy) ∧ w'.cell? ⟨w.heap.size, 2, none⟩ = some (.int .i64 cz))
          (refine ⟨Blk.cell_ (t := 23) (cs := #[.int .i64 cx, .int .i64 cy, .int .i64 cz]) ?_ 0 rfl, Blk.cell_ (t := 23) (cs := #[.int .i64 cx, .int .i64 cy, .int .i64 cz]) ?_ 1 rfl, Blk.cell_ (t := 23) (cs := #[.int .i64 cx, .int .i64 cy, .int .i64 cz]) ?_ 2 rfl⟩ <;> assumption)
          (first
            | (go_at_call 15; with_reducible refine Calls.mono CMA.out ?_; rintro e w2 ⟨ho2, _, h1⟩; rw [h1 HOK.out]; have o2 := HO1.out.drew.trans ho2; have b2 := b0.only ho2 (by simp); clear h1)
            | (go_at_call 15; with_reducible refine Calls.mono (CMB.out w2 o2) ?_; rintro e w3 ⟨ho3, _, h1⟩; rw [h1 HOK.out]; have o3 := o2.trans ho3; have b3 := b2.only ho3 (by simp); clear h1))
        go_wp2_with (first | (go_at_call 14; with_reducible refine Grew.use (alive_any _) (fun w5 ho5 => ?_)))
        go_ret
        exact ⟨rfl, o3.trans ho5⟩
end Go.Proofs.Ytlmjelcnldlagaa
