/- CentralClones, walked. -/
import Derived.Test.YtlmjelcnldlagaaZLU
set_option linter.unusedVariables false
set_option linter.unusedSimpArgs false
namespace Go.Proofs.Ytlmjelcnldlagaa
open Go.RowKit

set_option maxRecDepth 100000 in
set_option maxHeartbeats 8000000 in
theorem CentralClones_walk (w : World) (cx cy cz : Int) (_ : I64 cx) (_ : I64 cy) (_ : I64 cz) (A : Option Addr) (n cp : Nat) (l : List Ac7) (hr : ReadsA w A n l) (hn : n ≤ 9223372036854775807) (A' : Option Addr) (n' cp' : Nat) (l' : List Ac7) (hr' : ReadsA w A' n' l') (hn' : n' ≤ 9223372036854775807) (side : Bool) :
    Grew Try.prog 12 #[.agg #[.int .i64 cx, .int .i64 cy, .int .i64 cz], .slice A n cp, .slice A' n' cp', .bool side] w (.bool true) := by
  have hlen := hr.1
  have hlen' := hr'.1
  have o1 := (Only.refl [] w).alloc (.cells #[.int .i64 cx, .int .i64 cy, .int .i64 cz] 23)
  have bC := Blk.new w 23 #[.int .i64 cx, .int .i64 cy, .int .i64 cz]
  have CG := Lib.hid (great_any (w.alloc (.cells #[.int .i64 cx, .int .i64 cy, .int .i64 cz] 23)) A n cp l (hr.still o1) hn)
  have CG2 := Lib.hid (great_any (w.alloc (.cells #[.int .i64 cx, .int .i64 cy, .int .i64 cz] 23)) A' n' cp' l' (hr'.still o1) hn')
  have CM := Lib.hid (fun W (h : Only [] w W) (h60 : ∀ j, j < n → (xAt l j).n ≤ 60) => lmadeOf_any W ⟨cx, cy, cz⟩ A n cp l (hr.still h) hn h60)
  have HO1 := Lib.hid o1
  have HBC1 := Lib.hid bC
  have HR' := Lib.hid hr'
  cases hg : greatOf l with
  | true =>
    rw [hg] at CG
    clear hr hlen bC hr' hlen'
    go_enter Try.func12, Try.ntmps12
    go_wp2_with (first | (go_at_call 13; with_reducible refine Still.use CG.out ?_) | (go_at_call 14; with_reducible refine Grew.use (alive_any _) (fun w5 ho5 => ?_)))
    go_ret
    exact ⟨rfl, HO1.out.trans ho5⟩
  | false =>
    rw [hg] at CG
    have h60 : ∀ j, j < n → (xAt l j).n ≤ 60 := fun j hj => (greatOf_false hg).2 j (by rw [hlen]; exact hj)
    have H60 := Lib.hid h60
    cases hg2 : greatOf l' with
    | true =>
      rw [hg2] at CG2
      clear hr hlen bC hr' hlen' hg hg2 h60
      go_enter Try.func12, Try.ntmps12
      go_wp2_with (first | (go_at_call 13; with_reducible refine Still.use CG.out ?_) | (go_at_call 13; with_reducible refine Still.use CG2.out ?_) | (go_at_call 14; with_reducible refine Grew.use (alive_any _) (fun w5 ho5 => ?_)))
      go_ret
      exact ⟨rfl, HO1.out.trans ho5⟩
    | false =>
      rw [hg2] at CG2
      have h60' : ∀ j, j < n' → (xAt l' j).n ≤ 60 := fun j hj => (greatOf_false hg2).2 j (by rw [hlen']; exact hj)
      have H60' := Lib.hid h60'
      have b0 := bC.drew
      have hsz0 : w.heap.size < (w.alloc (.cells #[.int .i64 cx, .int .i64 cy, .int .i64 cz] 23)).heap.size := by simp
      clear hr hlen bC hr' hlen' hg hg2 h60 h60'
      by_cases hok : (⟨cx, cy, cz⟩ : Cl).ok
      · have HOK := Lib.hid hok
        clear hok
        go_enter Try.func12, Try.ntmps12
        go_wp2_with (first | (go_at_call 13; with_reducible refine Still.use CG.out ?_) | (go_at_call 13; with_reducible refine Still.use CG2.out ?_))
        generalize w.alloc (.cells #[.int .i64 cx, .int .i64 cy, .int .i64 cz] 23) = w1 at *
        have CMA := Lib.hid (CM.out w1.drew HO1.out.drew H60.out)
        have CMB := Lib.hid (fun W (h : Only [] w W) => CM.out W h H60.out)
        clear CM CG CG2
        go_region_held3 (fun w' => w'.cell? ⟨w.heap.size, 0, none⟩ = some (.int .i64 cx) ∧ w'.cell? ⟨w.heap.size, 1, none⟩ = some (.int .i64 cy) ∧ w'.cell? ⟨w.heap.size, 2, none⟩ = some (.int .i64 cz))
          (refine ⟨Blk.cell_ (t := 23) (cs := #[.int .i64 cx, .int .i64 cy, .int .i64 cz]) ?_ 0 rfl, Blk.cell_ (t := 23) (cs := #[.int .i64 cx, .int .i64 cy, .int .i64 cz]) ?_ 1 rfl, Blk.cell_ (t := 23) (cs := #[.int .i64 cx, .int .i64 cy, .int .i64 cz]) ?_ 2 rfl⟩ <;> assumption)
          (first
            | (go_at_call 15; with_reducible refine Calls.mono CMA.out ?_; rintro e w2 ⟨ho2, h1, _⟩; obtain ⟨P, bl, rfl, hst, hbl⟩ := h1 HOK.out; have o2 := HO1.out.drew.trans ho2; have b2 := b0.only ho2 (by simp); have HST := Lib.hid hst; have HBL := Lib.hid hbl; clear h1 hst hbl)
            | (go_at_call 15; with_reducible refine Calls.mono (CMB.out w2 o2) ?_; rintro e w3 ⟨ho3, h1, _⟩; obtain ⟨Q, bl', rfl, hst', hbl'⟩ := h1 HOK.out; have o3 := o2.trans ho3; have b3 := b2.only ho3 (by simp); have HST' := Lib.hid hst'; have HBL' := Lib.hid hbl'; clear h1 hst' hbl'))
        generalize acts ⟨cx, cy, cz⟩ [] l n = M at *
        have hz1 : w1.heap.size ≤ w2.heap.size := ((Only.refl [] w1).drew.trans ho2).size
        have CC := Lib.hid (lClone_at (HST.out.still ho3))
        clear CMA CMB
        go_wp2_with fail
        refine CC.out.mono ?_
        rintro e w4 ⟨ho4, R, bl4, rfl, hst4, hbl4⟩
        have o4 := o3.trans ho4
        have hP4 := HST.out.still (ho3.trans ho4)
        have hQ4 := HST'.out.still ho4
        have d2 := ho2.size
        have d3 := ho3.size
        have d4 := ho4.size
        have HP4 := Lib.hid hP4
        have HQ4 := Lib.hid hQ4
        have HR4 := Lib.hid hst4
        have HBL4 := Lib.hid hbl4
        have hPl : ∀ b ∈ bl, b < w2.heap.size := HST.out.lt
        have hQl : ∀ b ∈ bl', b < w3.heap.size := HST'.out.lt
        have HPL := Lib.hid hPl
        have HQL := Lib.hid hQl
        clear hP4 hQ4 hst4 hbl4 hPl hQl CC
        cases side with
        | true =>
          go_wp2_with fail
          go_loopw [12] (fun t wr => ∃ (k : Nat) (bl5 : List Nat), k ≤ n' ∧ t = .int .i64 k ∧ Only [] w wr ∧ ListSt wr P bl5 ⟨cx, cy, cz⟩ (acts ⟨cx, cy, cz⟩ M l' k) ∧ (∀ b ∈ bl5, b ∈ bl ∨ w4.heap.size ≤ b) ∧ ListSt wr Q bl' ⟨cx, cy, cz⟩ M ∧ ListSt wr R bl4 ⟨cx, cy, cz⟩ M ∧ w4.heap.size ≤ wr.heap.size) (fun t _ => n' - (intOf t).toNat)
          case atStart => exact ⟨0, bl, Nat.zero_le _, rfl, o4, HP4.out, fun b hb => .inl hb, HQ4.out, HR4.out, Nat.le_refl _⟩
          case round =>
            obtain ⟨k, bl5, hk, rfl, ho, h1, h2, h3, h4, h5⟩ := hrel
            by_cases hlt : k < n'
            · have e1 : decide ((k : Int) < n') = true := decide_eq_true (by omega)
              obtain ⟨hok, ad, rfl, c0, c1, c2⟩ := (HR'.out.still ho).at_ hlt
              have hold := (HR'.out.at_ hlt).1.old
              have hb5 : ∀ b ∈ bl5, w1.heap.size ≤ b := fun b hb => by
                rcases h2 b hb with h | h
                · exact HBL.out b h
                · omega
              have CD := Lib.hid (ldo_any h1 (xAt l' k) hok (H60'.out k hlt) (fun h0 ad e hb => by
                have a1 := hold h0 ad e
                have a2 := hb5 _ hb
                omega))
              have HACT : Hid (acts ⟨cx, cy, cz⟩ M l' (k + 1) = actM ⟨cx, cy, cz⟩ (acts ⟨cx, cy, cz⟩ M l' k) (xAt l' k)) := rfl
              generalize actE ⟨cx, cy, cz⟩ (acts ⟨cx, cy, cz⟩ M l' k) (xAt l' k) = ee at *
              generalize actM ⟨cx, cy, cz⟩ (acts ⟨cx, cy, cz⟩ M l' k) (xAt l' k) = mm at *
              have H1 := Lib.hid h1
              have H2 := Lib.hid h2
              have H3 := Lib.hid h3
              have H4 := Lib.hid h4
              have HB5 := Lib.hid hb5
              unfold Ac7.val at CD
              clear hok hold h1 h2 h3 h4 hb5
              generalize xAt l' k = x at *
              obtain ⟨xk, xa, xB, xn, xc, xo⟩ := x
              dsimp only at *
              go_wp2_with fail
              refine CD.out.mono ?_
              rintro e w6 ⟨rfl, hoD, bl6, hst6, hbl6⟩
              go_wp2_with fail
              go_roundw
              case rel =>
                refine ⟨k + 1, bl6, by omega, by go_num, ho.then_ hoD (fun b hb => .inr (by have := HB5.out b hb; omega)), by rw [HACT.out]; exact hst6, fun b hb => ?_, H3.out.only hoD (fun b hb hb' => ?_), H4.out.only hoD (fun b hb hb' => ?_), Nat.le_trans h5 hoD.size⟩
                · rcases hbl6 b hb with h | h
                  · exact H2.out b h
                  · exact .inr (Nat.le_trans h5 h)
                · have a1 := HBL'.out b hb
                  have a2 := HQL.out b hb
                  rcases H2.out b hb' with h | h
                  · have := HPL.out b h; omega
                  · omega
                · have a1 := HBL4.out b hb
                  have a2 := HR4.out.lt b hb
                  rcases H2.out b hb' with h | h
                  · have := HPL.out b h; omega
                  · omega
              case measure => simp [intOf]; omega
            · have e : k = n' := by omega
              subst e
              have e1 : decide ((k : Int) < k) = false := decide_eq_false (by omega)
              have CL := Lib.hid (lalike_any h4 h3)
              clear h1 h2 h3 h4
              go_wp2_with (first | (go_at_call 29; with_reducible refine Grew.use CL.out (fun w5 ho5 => ?_)) | (go_at_call 14; with_reducible refine Grew.use (alive_any _) (fun w6 ho6 => ?_)))
              go_ret
              exact ⟨rfl, (ho.trans ho5).trans ho6⟩
        | false =>
          go_wp2_with fail
          go_loopw [12] (fun t wr => ∃ (k : Nat) (bl5 : List Nat), k ≤ n' ∧ t = .int .i64 k ∧ Only [] w wr ∧ ListSt wr R bl5 ⟨cx, cy, cz⟩ (acts ⟨cx, cy, cz⟩ M l' k) ∧ (∀ b ∈ bl5, b ∈ bl4 ∨ w4.heap.size ≤ b) ∧ ListSt wr Q bl' ⟨cx, cy, cz⟩ M ∧ ListSt wr P bl ⟨cx, cy, cz⟩ M ∧ w4.heap.size ≤ wr.heap.size) (fun t _ => n' - (intOf t).toNat)
          case atStart => exact ⟨0, bl4, Nat.zero_le _, rfl, o4, HR4.out, fun b hb => .inl hb, HQ4.out, HP4.out, Nat.le_refl _⟩
          case round =>
            obtain ⟨k, bl5, hk, rfl, ho, h1, h2, h3, h4, h5⟩ := hrel
            by_cases hlt : k < n'
            · have e1 : decide ((k : Int) < n') = true := decide_eq_true (by omega)
              obtain ⟨hok, ad, rfl, c0, c1, c2⟩ := (HR'.out.still ho).at_ hlt
              have hold := (HR'.out.at_ hlt).1.old
              have hb5 : ∀ b ∈ bl5, w3.heap.size ≤ b := fun b hb => by
                rcases h2 b hb with h | h
                · exact HBL4.out b h
                · omega
              have CD := Lib.hid (ldo_any h1 (xAt l' k) hok (H60'.out k hlt) (fun h0 ad e hb => by
                have a1 := hold h0 ad e
                have a2 := hb5 _ hb
                omega))
              have HACT : Hid (acts ⟨cx, cy, cz⟩ M l' (k + 1) = actM ⟨cx, cy, cz⟩ (acts ⟨cx, cy, cz⟩ M l' k) (xAt l' k)) := rfl
              generalize actE ⟨cx, cy, cz⟩ (acts ⟨cx, cy, cz⟩ M l' k) (xAt l' k) = ee at *
              generalize actM ⟨cx, cy, cz⟩ (acts ⟨cx, cy, cz⟩ M l' k) (xAt l' k) = mm at *
              have H1 := Lib.hid h1
              have H2 := Lib.hid h2
              have H3 := Lib.hid h3
              have H4 := Lib.hid h4
              have HB5 := Lib.hid hb5
              unfold Ac7.val at CD
              clear hok hold h1 h2 h3 h4 hb5
              generalize xAt l' k = x at *
              obtain ⟨xk, xa, xB, xn, xc, xo⟩ := x
              dsimp only at *
              go_wp2_with fail
              refine CD.out.mono ?_
              rintro e w6 ⟨rfl, hoD, bl6, hst6, hbl6⟩
              go_wp2_with fail
              go_roundw
              case rel =>
                refine ⟨k + 1, bl6, by omega, by go_num, ho.then_ hoD (fun b hb => .inr (by have := HB5.out b hb; omega)), by rw [HACT.out]; exact hst6, fun b hb => ?_, H3.out.only hoD (fun b hb hb' => ?_), H4.out.only hoD (fun b hb hb' => ?_), Nat.le_trans h5 hoD.size⟩
                · rcases hbl6 b hb with h | h
                  · exact H2.out b h
                  · exact .inr (Nat.le_trans h5 h)
                · have a2 := HQL.out b hb
                  have := HB5.out b hb'
                  omega
                · have a2 := HPL.out b hb
                  have := HB5.out b hb'
                  omega
              case measure => simp [intOf]; omega
            · have e : k = n' := by omega
              subst e
              have e1 : decide ((k : Int) < k) = false := decide_eq_false (by omega)
              have CL := Lib.hid (lalike_any h4 h3)
              clear h1 h2 h3 h4
              go_wp2_with (first | (go_at_call 29; with_reducible refine Grew.use CL.out (fun w5 ho5 => ?_)) | (go_at_call 14; with_reducible refine Grew.use (alive_any _) (fun w6 ho6 => ?_)))
              go_ret
              exact ⟨rfl, (ho.trans ho5).trans ho6⟩
      · have HOK := Lib.hid hok
        clear hok
        go_enter Try.func12, Try.ntmps12
        go_wp2_with (first | (go_at_call 13; with_reducible refine Still.use CG.out ?_) | (go_at_call 13; with_reducible refine Still.use CG2.out ?_))
        generalize w.alloc (.cells #[.int .i64 cx, .int .i64 cy, .int .i64 cz] 23) = w1 at *
        have CMA := Lib.hid (CM.out w1.drew HO1.out.drew H60.out)
        have CMB := Lib.hid (fun W (h : Only [] w W) => CM.out W h H60.out)
        clear CM CG CG2
        go_region_held3 (fun w' => w'.cell? ⟨w.heap.size, 0, none⟩ = some (.int .i64 cx) ∧ w'.cell? ⟨w.heap.size, 1, none⟩ = some (.int .i64 cy) ∧ w'.cell? ⟨w.heap.size, 2, none⟩ = some (.int .i64 cz))
          (refine ⟨Blk.cell_ (t := 23) (cs := #[.int .i64 cx, .int .i64 cy, .int .i64 cz]) ?_ 0 rfl, Blk.cell_ (t := 23) (cs := #[.int .i64 cx, .int .i64 cy, .int .i64 cz]) ?_ 1 rfl, Blk.cell_ (t := 23) (cs := #[.int .i64 cx, .int .i64 cy, .int .i64 cz]) ?_ 2 rfl⟩ <;> assumption)
          (first
            | (go_at_call 15; with_reducible refine Calls.mono CMA.out ?_; rintro e w2 ⟨ho2, _, h1⟩; rw [h1 HOK.out]; have o2 := HO1.out.drew.trans ho2; have b2 := b0.only ho2 (by simp); clear h1)
            | (go_at_call 15; with_reducible refine Calls.mono (CMB.out w2 o2) ?_; rintro e w3 ⟨ho3, _, h1⟩; rw [h1 HOK.out]; have o3 := o2.trans ho3; have b3 := b2.only ho3 (by simp); clear h1))
        go_wp2_with (first | (go_at_call 14; with_reducible refine Grew.use (alive_any _) (fun w5 ho5 => ?_)))
        go_ret
        exact ⟨rfl, o3.trans ho5⟩
end Go.Proofs.Ytlmjelcnldlagaa
