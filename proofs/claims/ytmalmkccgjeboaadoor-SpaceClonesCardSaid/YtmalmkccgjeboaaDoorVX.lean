/- The walk of SpaceClones. -/
import Derived.Test.YtmalmkccgjeboaaDoorVT
set_option linter.unusedVariables false
set_option linter.unusedSimpArgs false
namespace Go.Proofs.YtmalmkccgjeboaaDoor
open Go.RowKit

set_option maxRecDepth 100000 in
set_option maxHeartbeats 3000000 in
theorem SpaceClones_walk (w : World) (hE : Env w) (pages : Int) (hp : 0 ≤ pages ∧ pages ≤ 255) (A : Option Addr) (n c : Nat) (l : List Ac) (hr : ReadsA w A n l) (hn : n ≤ 9223372036854775807)
    (B : Option Addr) (n' c' : Nat) (l' : List Ac) (hr' : ReadsA w B n' l') (hn' : n' ≤ 9223372036854775807) (side : Bool) :
    Grew Tryd.prog 8 #[.int .u8 pages, .slice A n c, .slice B n' c', .bool side] w (.bool true) := by
  have HE := Lib.hid hE
  have HR' := Lib.hid hr'
  have CG := Lib.hid (fun W => great_any W A n c hn)
  have CG' := Lib.hid (fun W => great_any W B n' c' hn')
  have CM := Lib.hid (fun W (ho : Only [] w W) => lmade_any (hE.only ho (by simp)) pages hp A n c l (hr.still ho) hn)
  clear hr hE hr'
  by_cases hg : 40 < n
  · rw [decide_eq_true hg] at CG
    go_enter Tryd.func8, Tryd.ntmps8
    go_wp2_with (first | (go_at_call 13; with_reducible refine Still.use (CG.out _) ?_) | (go_at_call 14; with_reducible refine Grew.use (alive_any _ HE.out) (fun w5 ho5 => ?_)))
    go_ret
    exact ⟨rfl, ho5⟩
  rw [decide_eq_false hg] at CG
  by_cases hg' : 40 < n'
  · rw [decide_eq_true hg'] at CG'
    go_enter Tryd.func8, Tryd.ntmps8
    go_wp2_with (first | (go_at_call 13; with_reducible refine Still.use (CG.out _) ?_) | (go_at_call 13; with_reducible refine Still.use (CG'.out _) ?_) | (go_at_call 14; with_reducible refine Grew.use (alive_any _ HE.out) (fun w5 ho5 => ?_)))
    go_ret
    exact ⟨rfl, ho5⟩
  rw [decide_eq_false hg'] at CG'
  go_enter Tryd.func8, Tryd.ntmps8
  go_wp2_with (first | (go_at_call 13; with_reducible refine Still.use (CG.out _) ?_) | (go_at_call 13; with_reducible refine Still.use (CG'.out _) ?_))
  refine (CM.out w (Only.refl _ _)).mono ?_
  rintro e w1 ⟨ho1, p, L, rfl, hs, hL⟩
  have CM1 := CM.out w1 ho1
  generalize (SpM.fresh (pages % 64 + 1).toNat).acts l n = m at *
  go_wp2_with fail
  refine CM1.mono ?_
  rintro e w2 ⟨ho2, u, U, rfl, hu, hU⟩
  clear CM CM1
  have hs2 := hs.still ho2
  go_wp2_with fail
  refine (Clone_any hs2).mono ?_
  rintro e w3 ⟨ho3, t, T, rfl, ht, hT⟩
  have hs3 := hs2.still ho3
  have hu3 := hu.still ho3
  have ho13 := (ho1.trans ho2).trans ho3
  have dSU : ∀ b ∈ L, b ∉ U := fun b hb hb2 => by have := hU b hb2; have := hs.lt b hb; omega
  have dST : ∀ b ∈ L, b ∉ T := fun b hb hb2 => by have := hT b hb2; have := hs2.lt b hb; omega
  have dUT : ∀ b ∈ U, b ∉ T := fun b hb hb2 => by have := hT b hb2; have := hu.lt b hb; omega
  have hUw : ∀ b ∈ U, w.heap.size ≤ b := fun b hb => by have := hU b hb; have := ho1.size; omega
  have hTw : ∀ b ∈ T, w.heap.size ≤ b := fun b hb => by have := hT b hb; have := (ho1.trans ho2).size; omega
  have HS3 := Lib.hid hs3
  have HU3 := Lib.hid hu3
  have HT3 := Lib.hid ht
  have HdSU := Lib.hid dSU
  have HdST := Lib.hid dST
  have HdUT := Lib.hid dUT
  have HL := Lib.hid hL
  have HUw := Lib.hid hUw
  have HTw := Lib.hid hTw
  clear hs hs2 hs3 hu hu3 ht hT hU dSU dST dUT hL hUw hTw ho1 ho2 ho3
  cases side
  · go_wp2_with fail
    go_loopw [12] (fun i wr => ∃ k : Nat, k ≤ n' ∧ i = .int .i64 k ∧ Only [] w wr ∧ ∃ mk K, SpaceAt wr t K mk ∧ (∀ b ∈ K, w.heap.size ≤ b) ∧ (∀ b ∈ K, b ∉ U) ∧ (∀ b ∈ K, b ∉ L) ∧ SpaceAt wr p L m ∧ SpaceAt wr u U m) (fun i _ => n' - (intOf i).toNat)
    case atStart => exact ⟨0, Nat.zero_le _, rfl, ho13, m, T, HT3.out, HTw.out, (fun b hb hb2 => HdUT.out b hb2 hb), (fun b hb hb2 => HdST.out b hb2 hb), HS3.out, HU3.out⟩
    case round =>
      obtain ⟨k, hk, rfl, ho, mk, K, hsk, hK, hKU, hKY, hyk, huk⟩ := hrel
      by_cases hlt : k < n'
      · have d1 : decide ((k : Int) < n') = true := decide_eq_true (by omega)
        obtain ⟨hok, ad, rfl, c0, c1, c2, c3⟩ := (HR'.out.still ho).at_ hlt
        have CD := Lib.hid (do_any (HE.out.only ho (by simp)) hsk (vAt l' k) hok)
        generalize mk.actE (vAt l' k) = ee at *
        generalize mk.act (vAt l' k) = mn at *
        generalize vAt l' k = x at *
        obtain ⟨xk, xa, xb, xc⟩ := x
        dsimp only at *
        clear hok
        go_wp2_with fail
        refine CD.out.mono ?_
        rintro e w4 ⟨rfl, hTn⟩
        have hy4 := hyk.only hTn.1 (fun b hb hb2 => hKY b hb2 hb)
        have hu4 := huk.only hTn.1 (fun b hb hb2 => hKU b hb2 hb)
        have ho4 : Only [] w w4 := ho.then_ hTn.1 (fun b hb => .inr (hK b hb))
        obtain ⟨_, K2, hs4, hK2⟩ := hTn
        have hyl := hyk.lt
        have hul := huk.lt
        have hsz := ho.size
        clear CD hsk hyk huk
        go_wp2_with fail
        go_roundw
        case rel =>
          refine ⟨k + 1, by omega, by go_num, ho4, mn, K2, hs4, fun b hb => ?_, fun b hb hb2 => ?_, fun b hb hb2 => ?_, hy4, hu4⟩
          · rcases hK2 b hb with h | h
            · exact hK b h
            · omega
          · rcases hK2 b hb with h | h
            · exact hKU b h hb2
            · have := hul b hb2; omega
          · rcases hK2 b hb with h | h
            · exact hKY b h hb2
            · have := hyl b hb2; omega
        case measure => simp [intOf]; omega
      · have e : k = n' := by omega
        subst e
        have d1 : decide ((k : Int) < k) = false := decide_eq_false (by omega)
        have CA := Lib.hid (alike_any (HE.out.only ho (by simp)) hyk huk)
        clear hsk hyk huk
        go_wp2_with (first | (go_at_call 30; with_reducible refine Grew.use CA.out (fun w5 ho5 => ?_)) | (go_at_call 14; with_reducible refine Grew.use (alive_any _ (HE.out.only (ho.trans ho5) (by simp))) (fun w6 ho6 => ?_)))
        go_ret
        exact ⟨rfl, ho.trans (ho5.trans ho6)⟩
  · go_wp2_with fail
    go_loopw [12] (fun i wr => ∃ k : Nat, k ≤ n' ∧ i = .int .i64 k ∧ Only [] w wr ∧ ∃ mk K, SpaceAt wr p K mk ∧ (∀ b ∈ K, w.heap.size ≤ b) ∧ (∀ b ∈ K, b ∉ U) ∧ (∀ b ∈ K, b ∉ T) ∧ SpaceAt wr t T m ∧ SpaceAt wr u U m) (fun i _ => n' - (intOf i).toNat)
    case atStart => exact ⟨0, Nat.zero_le _, rfl, ho13, m, L, HS3.out, HL.out, HdSU.out, HdST.out, HT3.out, HU3.out⟩
    case round =>
      obtain ⟨k, hk, rfl, ho, mk, K, hsk, hK, hKU, hKY, hyk, huk⟩ := hrel
      by_cases hlt : k < n'
      · have d1 : decide ((k : Int) < n') = true := decide_eq_true (by omega)
        obtain ⟨hok, ad, rfl, c0, c1, c2, c3⟩ := (HR'.out.still ho).at_ hlt
        have CD := Lib.hid (do_any (HE.out.only ho (by simp)) hsk (vAt l' k) hok)
        generalize mk.actE (vAt l' k) = ee at *
        generalize mk.act (vAt l' k) = mn at *
        generalize vAt l' k = x at *
        obtain ⟨xk, xa, xb, xc⟩ := x
        dsimp only at *
        clear hok
        go_wp2_with fail
        refine CD.out.mono ?_
        rintro e w4 ⟨rfl, hTn⟩
        have hy4 := hyk.only hTn.1 (fun b hb hb2 => hKY b hb2 hb)
        have hu4 := huk.only hTn.1 (fun b hb hb2 => hKU b hb2 hb)
        have ho4 : Only [] w w4 := ho.then_ hTn.1 (fun b hb => .inr (hK b hb))
        obtain ⟨_, K2, hs4, hK2⟩ := hTn
        have hyl := hyk.lt
        have hul := huk.lt
        have hsz := ho.size
        clear CD hsk hyk huk
        go_wp2_with fail
        go_roundw
        case rel =>
          refine ⟨k + 1, by omega, by go_num, ho4, mn, K2, hs4, fun b hb => ?_, fun b hb hb2 => ?_, fun b hb hb2 => ?_, hy4, hu4⟩
          · rcases hK2 b hb with h | h
            · exact hK b h
            · omega
          · rcases hK2 b hb with h | h
            · exact hKU b h hb2
            · have := hul b hb2; omega
          · rcases hK2 b hb with h | h
            · exact hKY b h hb2
            · have := hyl b hb2; omega
        case measure => simp [intOf]; omega
      · have e : k = n' := by omega
        subst e
        have d1 : decide ((k : Int) < k) = false := decide_eq_false (by omega)
        have CA := Lib.hid (alike_any (HE.out.only ho (by simp)) hyk huk)
        clear hsk hyk huk
        go_wp2_with (first | (go_at_call 30; with_reducible refine Grew.use CA.out (fun w5 ho5 => ?_)) | (go_at_call 14; with_reducible refine Grew.use (alive_any _ (HE.out.only (ho.trans ho5) (by simp))) (fun w6 ho6 => ?_)))
        go_ret
        exact ⟨rfl, ho.trans (ho5.trans ho6)⟩
end Go.Proofs.YtmalmkccgjeboaaDoor
