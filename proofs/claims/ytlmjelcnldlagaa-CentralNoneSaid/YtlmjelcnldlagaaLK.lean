/- slices.IndexFunc and slices.DeleteFunc with Sweep's closure. -/
import Derived.Test.YtlmjelcnldlagaaLJ
set_option linter.unusedVariables false
set_option linter.unusedSimpArgs false
namespace Go.Proofs.Ytlmjelcnldlagaa
open Go.RowKit

/-- The runs of the first k spans without a taken object, and the spans that have one. -/
def zeroTo (M : List Sp) : Nat → List (Int × Int)
  | 0 => []
  | k + 1 => if (sAt M k).many = 0 then zeroTo M k ++ [((sAt M k).start, (sAt M k).pages)] else zeroTo M k
def keptE (L : List En) : Nat → List En
  | 0 => []
  | k + 1 => if (eAt L k).s.many = 0 then keptE L k else keptE L k ++ [eAt L k]
theorem zeroTo_len (M : List Sp) (k : Nat) : (zeroTo M k).length ≤ k := by
  induction k with
  | zero => exact Nat.le_refl _
  | succ k ih =>
    rw [zeroTo]
    split
    · rw [List.length_append]; simp; omega
    · omega
theorem keptE_len (L : List En) (k : Nat) : (keptE L k).length ≤ k := by
  induction k with
  | zero => exact Nat.le_refl _
  | succ k ih =>
    rw [keptE]
    split
    · omega
    · rw [List.length_append]; simp; omega
theorem zeroTo_nil {M : List Sp} (k : Nat) (h : ∀ j, j < k → (sAt M j).many ≠ 0) : zeroTo M k = [] := by
  induction k with
  | zero => rfl
  | succ k ih => rw [zeroTo, if_neg (h k (by omega))]; exact ih (fun j hj => h j (by omega))
theorem keptE_all {L : List En} (k : Nat) (hk : k ≤ L.length) (h : ∀ j, j < k → (eAt L j).s.many ≠ 0) : keptE L k = L.take k := by
  induction k with
  | zero => rfl
  | succ k ih =>
    rw [keptE, if_neg (h k (by omega)), ih (by omega) (fun j hj => h j (by omega)), List.take_succ_eq_append_getElem (by omega)]
    rw [eAt, List.getD_eq_getElem?_getD, List.getElem?_eq_getElem (by omega)]
    rfl
theorem keptE_filter (L : List En) (k : Nat) (hk : k ≤ L.length) : keptE L k = (L.take k).filter (fun e => e.s.many != 0) := by
  induction k with
  | zero => rfl
  | succ k ih =>
    have e : L[k]'(by omega) = eAt L k := by rw [eAt, List.getD_eq_getElem?_getD, List.getElem?_eq_getElem (by omega)]; rfl
    rw [keptE, List.take_succ_eq_append_getElem (by omega), List.filter_append, ← ih (by omega), e]
    by_cases h : (eAt L k).s.many = 0
    · rw [if_pos h]; simp [h]
    · rw [if_neg h]; simp [h]

theorem OutAt.mono {w0 w : World} {l l' : List Nat} {o : Nat} {rs : List (Int × Int)} (h : OutAt w0 w l o rs) (hl : ∀ b ∈ l, b ∈ l') (ho : o ∉ l') : OutAt w0 w l' o rs := ⟨h.only.mono hl, h.ge, h.lt, ho, h.ex⟩
theorem OutAt.alloc {w0 w : World} {l : List Nat} {o : Nat} {rs : List (Int × Int)} (h : OutAt w0 w l o rs) (ob : Obj) : OutAt w0 (w.alloc ob) l o rs := by
  obtain ⟨v, h1, h2, h3⟩ := h.ex
  exact ⟨h.only.alloc ob, h.ge, by rw [World.size_alloc]; have := h.lt; omega, h.no, v, h1.alloc ob, own_only h2 ((Only.refl [] w).alloc ob) (by simp), h3⟩

set_option maxRecDepth 100000 in
set_option maxHeartbeats 4000000 in
theorem lindex_any {w0 w : World} {o P : Nat} {A : Value} {c : Cl} {L : List En} (h : ListAt w0 P A c L) (hO : OutAt w0 w [] o []) :
    Calls Try.prog 74 #[A, .func (.func 44) #[] #[.pointer (some ⟨o, 0, none⟩)]] w fun e w' =>
      (e = .returned (.int .i64 (-1)) ∧ (∀ j, j < L.length → (eAt L j).s.many ≠ 0) ∧ OutAt w0 w' [] o []) ∨
      (∃ k, k < L.length ∧ e = .returned (.int .i64 (k : Nat)) ∧ (eAt L k).s.many = 0 ∧ (∀ j, j < k → (eAt L j).s.many ≠ 0) ∧ OutAt w0 w' [] o (zeroTo (spans L) (k + 1))) := by
  obtain ⟨ad, cp, rfl⟩ := h.slice
  have HA := Lib.hid h
  have hn := h.len
  obtain ⟨N, hN⟩ : ∃ N, N = L.length := ⟨_, rfl⟩
  rw [← hN] at hn ⊢
  have HN := Lib.hid hN
  have HO := Lib.hid hO
  clear h hN hO
  go_enter Try.func74, Try.ntmps74
  go_wp2_with fail
  go_loopw [8] (fun t wr => ∃ k : Nat, k ≤ N ∧ t = .int .i64 k ∧ OutAt w0 wr [] o [] ∧ (∀ j, j < k → (eAt L j).s.many ≠ 0)) (fun t _ => N - (intOf t).toNat)
  case atStart => exact ⟨0, Nat.zero_le _, rfl, HO.out, fun j hj => absurd hj (by omega)⟩
  case round =>
    obtain ⟨k, hk, rfl, hO, hF⟩ := hrel
    have hr := HA.out.still hO.only
    by_cases hlt : k < N
    · have d1 : decide ((k : Int) < N) = true := decide_eq_true (by omega)
      obtain ⟨g, cp', e1⟩ := hr.form (by rw [← HN.out]; omega)
      injection e1 with e1 _ e3
      subst e1 e3
      obtain ⟨q0, q1, q2, qf⟩ := own_ents hr.row rfl (j := k) (by rw [← HN.out]; exact hlt)
      have hsp := (hr.get (show k < L.length by rw [← HN.out]; exact hlt)).1
      have hp0 := (HA.out.get (show k < L.length by rw [← HN.out]; exact hlt)).1.ltp
      have CS := Lib.hid (struck_any hO (by simp) hsp (by have := hO.ge; omega) (by simp))
      have HF := Lib.hid hF
      have HS := Lib.hid (sAt_spans L k)
      clear hr hF hsp hO
      by_cases h0 : (eAt L k).s.many = 0
      · have d2 : ((eAt L k).s.many == 0) = true := by simp [h0]
        have HZ : Hid (zeroTo (spans L) (k + 1) = [] ++ [((eAt L k).s.start, (eAt L k).s.pages)]) := by
          show _ = _
          rw [zeroTo, HS.out, if_pos h0, zeroTo_nil k (fun j hj => by rw [sAt_spans]; exact HF.out j hj)]
        have H0 := Lib.hid h0
        rw [if_pos h0, d2] at CS
        clear h0 d2
        go_wp2_with (go_at_call 44; refine CS.out.mono ?_; rintro e w2 ⟨rfl, hO2, _⟩)
        go_ret
        exact .inr ⟨k, hlt, rfl, H0.out, HF.out, by rw [HZ.out]; exact hO2⟩
      · have d2 : ((eAt L k).s.many == 0) = false := by simp [h0]
        have H0 := Lib.hid h0
        rw [if_neg h0, d2] at CS
        clear h0 d2
        go_wp2_with (go_at_call 44; refine CS.out.mono ?_; rintro e w2 ⟨rfl, hO2, _⟩)
        go_roundw
        case rel => exact ⟨k + 1, by omega, by go_num, hO2, fun j hj => (by
          rcases Nat.lt_or_ge j k with h1 | h1
          · exact HF.out j h1
          · rw [show j = k by omega]; exact H0.out)⟩
        case measure => simp [intOf]; omega
    · have e : k = N := by omega
      subst e
      have d1 : decide ((k : Int) < k) = false := decide_eq_false (by omega)
      have HF := Lib.hid hF
      clear hr hF
      go_wp2_with fail
      go_ret
      exact .inl ⟨rfl, HF.out, hO⟩
end Go.Proofs.Ytlmjelcnldlagaa
