/- Contracts of Bits and List. -/
import Derived.Test.YtnflfolonfmchaaSpG
set_option linter.unusedVariables false
set_option linter.unusedSimpArgs false
namespace Go.Proofs.Ytnflfolonfmchaa
open Go.RowKit

def Sp.bits (s : Sp) : ByteArray := strOfNums (s.st.map (48 + ·))

set_option maxHeartbeats 1000000 in
theorem Bits_at {w p q cap s} (h : SpanAt w p q cap s) : Grew Try.prog 18 #[.pointer (some ⟨p, 0, none⟩)] w (.string s.bits) := by
  have hl := h.good.len
  have h4 := h.c4
  have hpl := h.ltp
  have hql := h.ltq
  obtain ⟨i0, hi0, hz0, hz1, hz2⟩ := info_parts info_u8
  have hmk := run_make (P := Try.prog) w 66 5 i0 (.int .u8 0) Try.underlying66 hi0 hz0 .i64 .i64 s.st.length s.st.length (by omega) (by omega) (by rw [hz2]; omega) (by omega)
  simp only [Int.toNat_natCast, hz1, Nat.mul_one] at hmk
  clear hz0 hz1 hz2 hi0
  have HB := Lib.hid h.good.bits
  have hm0 := toList_madeCells_one (.int .u8 0) s.st.length
  have hms : (madeCells #[Value.int .u8 0] s.st.length).size = s.st.length := by rw [← Array.length_toList, hm0, List.length_replicate]
  have HMS := Lib.hid hms
  clear hm0 hms
  go_enter Try.func18, Try.ntmps18
  go_wp2_with (first | (go_at_call 32; refine Still.use (made_at h) ?_))
  have b1 := Blk.new w 5 (madeCells #[.int .u8 0] s.st.length)
  have ho1 := (Only.refl [] w).alloc (.cells (madeCells #[.int .u8 0] s.st.length) 5)
  generalize w.alloc (.cells (madeCells #[.int .u8 0] s.st.length) 5) = w1 at *
  go_loopw [20] (fun t wr => ∃ k : Nat, k ≤ s.st.length ∧ t = .int .i64 k ∧ Only [] w wr ∧ ∃ cs : Array Value, Blk wr w.heap.size 5 cs ∧ Hid (cs.size = s.st.length) ∧ Hid (∀ j, j < k → cs[j]? = some (.int .u8 (48 + s.st.getD j 0)))) (fun t _ => s.st.length - (intOf t).toNat)
  case atStart => exact ⟨0, Nat.zero_le _, rfl, ho1, _, b1, HMS.out, fun j hj => absurd hj (by omega)⟩
  case round =>
    obtain ⟨k, hk, rfl, ho, cs, hb, HS, HC⟩ := hrel
    clear hmk ho1 b1
    by_cases hlt : k < s.st.length
    · have hx := (h.only ho (by simp) (by simp)).at_ k hlt
      have hx1 : 0 ≤ s.st.getD k 0 ∧ s.st.getD k 0 ≤ 1 := by have := HB.out k hlt; omega
      obtain ⟨hx2, hx3⟩ := hx1
      have hf := hb.frozen k
      obtain ⟨u, hu⟩ : ∃ u, cs[k]? = some u := ⟨_, Array.getElem?_eq_getElem (by rw [HS.out]; exact hlt)⟩
      have hc := hb.cell_ k hu
      have HN : Hid ((cs.setIfInBounds k (.int .u8 (48 + s.st.getD k 0))).size = s.st.length) := by show _ = _; rw [Array.size_setIfInBounds]; exact HS.out
      have HN2 : Hid (∀ j, j < k + 1 → (cs.setIfInBounds k (.int .u8 (48 + s.st.getD k 0)))[j]? = some (.int .u8 (48 + s.st.getD j 0))) := fun j hj => by
        rw [Array.getElem?_setIfInBounds]
        by_cases e : k = j
        · subst e; rw [if_pos rfl, if_pos (by rw [HS.out]; exact hlt)]
        · rw [if_neg e]; exact HC.out j (by omega)
      have HX := Lib.hid (hb.set_ k (.int .u8 (48 + s.st.getD k 0)))
      clear hu
      generalize s.st.getD k 0 = x at hx hx2 hx3 HN HN2 HX
      go_wp2
      go_roundw
      case rel => exact ⟨k + 1, by omega, by go_num, ho.setCell (.inr (Nat.le_refl _)) _, _, HX.out, HN, HN2⟩
      case measure => simp [intOf]; omega
    · have e : k = s.st.length := by omega
      subst e
      have hcv := run_convert_bytes_arg (P := Try.prog) wr 66 5 Try.underlying66 Try.underlying5 w.heap.size 0 s.st.length s.st.length (s.st.map (48 + ·)) (by simp) (fun i hi => by
        rw [Nat.zero_add, hb.cell i, HC.out i hi]
        simp [List.getD_eq_getElem?_getD, List.getElem?_map, List.getElem?_eq_getElem hi]) 9 Try.underlying9
      go_wp2
      go_ret
      exact ⟨rfl, ho⟩

def Sp.listTo (s : Sp) : Nat → List Int
  | 0 => []
  | k + 1 => s.listTo k ++ (if s.st.getD k 0 = 1 then [s.start * 256 + k * s.size] else [])
def Sp.list (s : Sp) : List Int := s.listTo s.st.length
theorem Sp.listTo_le (s : Sp) (k : Nat) : (s.listTo k).length ≤ k := by
  induction k with
  | zero => simp [Sp.listTo]
  | succ k ih => simp only [Sp.listTo, List.length_append]; split <;> simp <;> omega

set_option maxHeartbeats 1000000 in
theorem List_at {w p q cap s} (h : SpanAt w p q cap s) : Calls Try.prog 21 #[.pointer (some ⟨p, 0, none⟩)] w fun e w' =>
    ∃ v, e = .returned v ∧ w'.ownsRow w.heap.size 3 1 v s.list.length (s.list.map (Value.int .i64)) ∧ Only [] w w' := by
  have hl := h.good.len
  have h4 := h.c4
  have hpl := h.ltp
  have hql := h.ltq
  have HB := Lib.hid h.good.bits
  obtain ⟨i0, hi, hz0, hz1, hz2⟩ := info_parts info_int
  go_enter Try.func21, Try.ntmps21
  go_wp2_with (first | (go_at_call 32; refine Still.use (made_at h) ?_))
  go_loopw [3, 14] (fun v t wr => ∃ k : Nat, k ≤ s.st.length ∧ t = .int .i64 k ∧ Only [] w wr ∧ wr.ownsRow w.heap.size 3 1 v (s.listTo k).length ((s.listTo k).map (Value.int .i64))) (fun _ t _ => s.st.length - (intOf t).toNat)
  case atStart => exact ⟨0, Nat.zero_le _, rfl, Only.refl _ _, World.ownsRow_nil _ _ _ _⟩
  case round =>
    obtain ⟨k, hk, rfl, ho, hown⟩ := hrel
    have hle := s.listTo_le k
    by_cases hlt : k < s.st.length
    · have h' := h.only ho (by simp) (by simp)
      have hx := h'.at_ k hlt
      by_cases hv : s.st.getD k 0 = 1
      · have HL : Hid (s.listTo (k + 1) = s.listTo k ++ [s.start * 256 + k * s.size]) := by show _ = _; simp only [Sp.listTo]; rw [if_pos hv]
        rw [hv] at hx
        clear hv
        have hsz := ho.size
        go_wp2_with (first
          | (go_at_call 33; refine Quiet.use (addr_at h' k (by omega) (by omega)) (fun n => ?_))
          | (at_builtin; refine wpList_append_own _ rfl _ _ 42 rfl w.heap.size 3 i0 (.int .i64 0) 1 8 Try.underlying42 hi hz0 hz1 hz2 rfl (by decide) _ _ _ rfl ((own_drewN hown n).alloc _) ⟨wr.heap.size, 0, none⟩ 1 1 [.int .i64 (s.start * 256 + k * s.size)] rfl rfl (cell_new1 (wr.drewN n) _ _) (by simp; rfl) (by unfold maxLen; omega) (by omega) (by simp; omega) ?_; intro v1 w1 hown1 hg1 _))
        go_roundw
        case rel => exact ⟨k + 1, by omega, by go_num, ((ho.drewN n).alloc _).grown hg1 (fun b hb => .inr (own_base hown b hb)), by rw [HL.out]; simpa using hown1⟩
        case measure => simp [intOf]; omega
      · have HL : Hid (s.listTo (k + 1) = s.listTo k) := by show _ = _; simp only [Sp.listTo]; rw [if_neg hv, List.append_nil]
        have d1 : (s.st.getD k 0 == 1) = false := beq_eq_false_iff_ne.2 hv
        clear hv
        generalize s.st.getD k 0 = x at hx d1
        go_wp2
        go_roundw
        case rel => exact ⟨k + 1, by omega, by go_num, ho, by rw [HL.out]; exact hown⟩
        case measure => simp [intOf]; omega
    · have e : k = s.st.length := by omega
      subst e
      go_wp2
      go_ret
      exact ⟨_, rfl, hown, ho⟩
end Go.Proofs.Ytnflfolonfmchaa
