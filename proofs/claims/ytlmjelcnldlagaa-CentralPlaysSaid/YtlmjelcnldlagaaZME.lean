/- in, without. -/
import Derived.Test.YtlmjelcnldlagaaZMD
set_option linter.unusedVariables false
set_option linter.unusedSimpArgs false
namespace Go.Proofs.Ytlmjelcnldlagaa
open Go.RowKit

theorem take_snoc (l : List Int) {k : Nat} (hk : k < l.length) : l.take (k + 1) = l.take k ++ [iAt l k] := by
  rw [List.take_succ_eq_append_getElem hk]
  simp [List.getD_eq_getElem?_getD, List.getElem?_eq_getElem hk]

set_option maxHeartbeats 2000000 in
theorem lin_any (w : World) (A : Option Addr) (n cap : Nat) (l : List Int) (v : Int) (h : ReadsI w A n l) (hn : n ≤ 9223372036854775807) : Still Try.prog 26 #[.slice A n cap, .int .i64 v] w (.bool (decide (v ∈ l))) := by
  have HR := Lib.hid h
  have HL := Lib.hid h.1
  clear h
  go_enter Try.func26, Try.ntmps26
  go_wp2_with fail
  go_loop [5] (fun t => ∃ k : Nat, k ≤ n ∧ t = .int .i64 k ∧ v ∉ l.take k) (fun t => n - (intOf t).toNat)
  case atStart => exact ⟨0, Nat.zero_le _, rfl, by simp⟩
  case round =>
    obtain ⟨k, hk, rfl, hv⟩ := hrel
    have HV := Lib.hid hv
    clear hv
    by_cases hlt : k < n
    · have d1 : decide ((k : Int) < n) = true := decide_eq_true (by omega)
      obtain ⟨ad, rfl, hc⟩ := HR.out.2 (by omega)
      have x0 : w.cell? (ad.add k) = some (.int .i64 (iAt l k)) := hc k hlt
      have hkl : k < l.length := by rw [HL.out]; exact hlt
      have HS := Lib.hid (take_snoc l hkl)
      have HM : Hid (iAt l k ∈ l) := Lib.hid (by
        have : iAt l k ∈ l.take (k + 1) := by rw [HS.out]; simp
        exact List.mem_of_mem_take this)
      clear hc hkl
      generalize iAt l k = x at *
      by_cases e : x = v
      · have d2 : (x == v) = true := beq_iff_eq.2 e
        have E : Hid (decide (v ∈ l) = true) := Lib.hid (decide_eq_true (by rw [← e]; exact HM.out))
        clear e
        go_wp2_with fail
        go_ret
        exact ⟨by rw [E.out]; rfl, rfl⟩
      · have d2 : (x == v) = false := beq_eq_false_iff_ne.2 e
        have HE := Lib.hid e
        clear e
        go_wp2_with fail
        go_round
        case rel => exact ⟨k + 1, by omega, by go_num, by rw [HS.out]; intro h; rcases List.mem_append.1 h with h | h; exact HV.out h; simp at h; exact HE.out h.symm⟩
        case measure => simp [intOf]; omega
    · have e : k = n := by omega
      subst e
      have d1 : decide ((k : Int) < k) = false := decide_eq_false (by omega)
      have E : Hid (decide (v ∈ l) = false) := Lib.hid (decide_eq_false (by
        have := HV.out
        rw [← HL.out, List.take_length] at this
        exact this))
      go_wp2_with fail
      go_ret
      exact ⟨by rw [E.out]; rfl, rfl⟩

/-- The first k numbers, without those of o. -/
def wTo (l o : List Int) : Nat → List Int
  | 0 => []
  | k + 1 => if iAt l k ∈ o then wTo l o k else wTo l o k ++ [iAt l k]
theorem wTo_eq (l o : List Int) (k : Nat) (hk : k ≤ l.length) : wTo l o k = (l.take k).filter (fun x => decide (x ∉ o)) := by
  induction k with
  | zero => rfl
  | succ k ih =>
    rw [wTo, ih (by omega), take_snoc l (by omega), List.filter_append]
    by_cases h : iAt l k ∈ o
    · rw [if_pos h, List.filter_cons_of_neg (by simpa using h)]; simp
    · rw [if_neg h, List.filter_cons_of_pos (by simpa using h)]; rfl
theorem wTo_len (l o : List Int) (k : Nat) : (wTo l o k).length ≤ k := by
  induction k with
  | zero => exact Nat.le_refl _
  | succ k ih =>
    rw [wTo]
    split
    · omega
    · rw [List.length_append]; simp; omega

set_option maxRecDepth 100000 in
set_option maxHeartbeats 4000000 in
theorem lwithout_any (w : World) (A : Option Addr) (n ca : Nat) (l : List Int) (B : Option Addr) (m cb : Nat) (o : List Int) (h : ReadsI w A n l) (h' : ReadsI w B m o) (hn : n ≤ 131072) (hm : m ≤ 9223372036854775807) :
    Calls Try.prog 25 #[.slice A n ca, .slice B m cb] w fun e w' => ∃ v, e = .returned v ∧ Only [] w w' ∧ w'.ownsRow w.heap.size 3 1 v (wTo l o n).length ((wTo l o n).map (Value.int .i64)) := by
  have HR := Lib.hid h
  have HR' := Lib.hid h'
  obtain ⟨i0, hi, hz0, hz1, hz2⟩ := info_parts info_int
  clear h h'
  go_enter Try.func25, Try.ntmps25
  go_wp2_with fail
  go_loopw [5, 6] (fun u t wr => ∃ k : Nat, k ≤ n ∧ t = .int .i64 k ∧ Only [] w wr ∧ wr.ownsRow w.heap.size 3 1 u (wTo l o k).length ((wTo l o k).map (Value.int .i64))) (fun _ t _ => n - (intOf t).toNat)
  case atStart => exact ⟨0, Nat.zero_le _, rfl, Only.refl _ _, World.ownsRow_nil _ _ _ _⟩
  case round =>
    obtain ⟨k, hk, rfl, ho, hown⟩ := hrel
    obtain ⟨A', c', rfl, _⟩ := own_slice hown
    by_cases hlt : k < n
    · have d1 : decide ((k : Int) < n) = true := decide_eq_true (by omega)
      obtain ⟨ad, rfl, hc⟩ := (HR.out.only ho (by simp)).2 (by omega)
      have x0 : wr.cell? (ad.add k) = some (.int .i64 (iAt l k)) := hc k hlt
      have HRA := Lib.hid (fun W (hW : Only [] wr W) => show W.cell? (ad.add k) = some (.int .i64 (iAt l k)) from ((HR.out.only (ho.trans hW) (by simp)).2 (by omega)).elim fun ad' h => by
        obtain ⟨e, h⟩ := h
        injection e with e
        subst e
        exact h k hlt)
      have CI := Lib.hid (lin_any wr B m cb o (iAt l k) (HR'.out.only ho (by simp)) hm)
      have HX : Hid (wTo l o (k + 1) = if iAt l k ∈ o then wTo l o k else wTo l o k ++ [iAt l k]) := rfl
      have hkl := wTo_len l o k
      have HW := Lib.hid hown
      have hsz := ho.size
      clear hc hown
      generalize iAt l k = x at *
      generalize wTo l o k = L at *
      obtain ⟨N, hN⟩ : ∃ N, N = L.length := ⟨_, rfl⟩
      have HN := Lib.hid hN
      rw [← hN] at HW hkl
      rw [← hN]
      clear hN
      by_cases e : x ∈ o
      · have HE := Lib.hid e
        rw [decide_eq_true e] at CI
        clear e
        go_wp2_with (first | (go_at_call 26; with_reducible refine Still.use CI.out ?_))
        go_roundw
        case rel => exact ⟨k + 1, by omega, by go_num, ho, by rw [HX.out, if_pos HE.out, ← HN.out]; exact HW.out⟩
        case measure => simp [intOf]; omega
      · have HE := Lib.hid e
        rw [decide_eq_false e] at CI
        clear e
        have hown := HW.out
        go_wp2_with (first
          | (go_at_call 26; with_reducible refine Still.use CI.out ?_)
          | (at_builtin; refine wpList_append_own _ rfl _ _ 25 rfl w.heap.size 3 i0 (.int .i64 0) 1 8 Try.underlying25 hi hz0 hz1 hz2 rfl (by decide) _ _ _ rfl (hown.alloc _) ⟨wr.heap.size, 0, none⟩ 1 1 [.int .i64 x] rfl rfl (cell_new1 wr _ _) (by simp; rfl) (by unfold maxLen; omega) (by omega) (by simp; omega) ?_; intro v1 w3 hown3 hg3 _))
        go_roundw
        case rel => exact ⟨k + 1, by omega, by go_num, (ho.alloc _).grown hg3 (fun b hb => .inr (own_base hown b hb)), by rw [HX.out, if_neg HE.out, List.length_append, List.map_append, ← HN.out]; exact hown3⟩
        case measure => simp [intOf]; omega
    · have e : k = n := by omega
      subst e
      have d1 : decide ((k : Int) < k) = false := decide_eq_false (by omega)
      have HW := Lib.hid hown
      clear hown
      go_wp2_with fail
      go_ret
      exact ⟨_, rfl, ho, HW.out⟩
end Go.Proofs.Ytlmjelcnldlagaa
