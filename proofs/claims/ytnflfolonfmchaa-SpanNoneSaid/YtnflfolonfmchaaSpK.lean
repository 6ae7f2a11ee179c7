/- do and made: calls one after the other. -/
import Derived.Test.YtnflfolonfmchaaSpJ
set_option linter.unusedVariables false
set_option linter.unusedSimpArgs false
namespace Go.Proofs.Ytnflfolonfmchaa
open Go.RowKit

/-- What do answers, and the span behind it. -/
def Sp.act (s : Sp) (x : Int × Int) : Int × Sp :=
  if x.1 = 0 then (s.take.1.2, s.take.2) else if x.1 = 1 then s.free x.2 else if x.1 = 2 then ((s.idx x.2).2, s) else if x.1 = 3 then ((s.tkn x.2).2, s) else (0, s)

set_option maxHeartbeats 2000000 in
theorem do_at {w p q cap s} (h : SpanAt w p q cap s) (k a : Int) (ha : I64 a) :
    Calls Try.prog 19 #[.pointer (some ⟨p, 0, none⟩), .agg #[.int .i64 k, .int .i64 a]] w fun e w' => e = .returned (.int .i64 (s.act (k, a)).1) ∧ SpanAt w' p q cap (s.act (k, a)).2 ∧ Only [p, q] w w' := by
  obtain ⟨ha0, ha1⟩ := ha
  have h1 := h.alloc (.cells #[.int .i64 k, .int .i64 a] 37)
  have ho1 := (Only.refl [p, q] w).alloc (.cells #[.int .i64 k, .int .i64 a] 37)
  by_cases k0 : k = 0
  · rw [show s.act (k, a) = (s.take.1.2, s.take.2) by unfold Sp.act; rw [if_pos k0]]
    subst k0
    go_enter Try.func19, Try.ntmps19
    go_wp2_with (first | (go_at_call 22; refine (Take_at h1).mono ?_; rintro e w2 ⟨rfl, h2, ho2⟩))
    go_ret
    exact ⟨rfl, h2, ho1.trans ho2⟩
  · have d0 : (k == 0) = false := beq_eq_false_iff_ne.2 k0
    by_cases k1 : k = 1
    · rw [show s.act (k, a) = s.free a by unfold Sp.act; rw [if_neg k0, if_pos k1]]
      subst k1
      go_enter Try.func19, Try.ntmps19
      go_wp2_with (first | (go_at_call 23; refine (Put_at h1 a ha0 ha1).mono ?_; rintro e w2 ⟨rfl, h2, ho2⟩))
      go_ret
      exact ⟨rfl, h2, ho1.trans ho2⟩
    · have d1 : (k == 1) = false := beq_eq_false_iff_ne.2 k1
      by_cases k2 : k = 2
      · rw [show s.act (k, a) = ((s.idx a).2, s) by unfold Sp.act; rw [if_neg k0, if_neg k1, if_pos k2]]
        subst k2
        go_enter Try.func19, Try.ntmps19
        go_wp2_with (first | (go_at_call 14; refine Quiet.use (Index_at h1 a ha0 ha1) (fun n => ?_)))
        go_ret
        exact ⟨rfl, h1.drewN _, ho1.drewN _⟩
      · have d2 : (k == 2) = false := beq_eq_false_iff_ne.2 k2
        by_cases k3 : k = 3
        · rw [show s.act (k, a) = ((s.tkn a).2, s) by unfold Sp.act; rw [if_neg k0, if_neg k1, if_neg k2, if_pos k3]]
          subst k3
          go_enter Try.func19, Try.ntmps19
          go_wp2_with (first | (go_at_call 16; refine Quiet.use (IsTaken_at h1 a ha0 ha1) (fun n => ?_)))
          go_ret
          exact ⟨rfl, h1.drewN _, ho1.drewN _⟩
        · rw [show s.act (k, a) = (0, s) by unfold Sp.act; rw [if_neg k0, if_neg k1, if_neg k2, if_neg k3]]
          have d3 : (k == 3) = false := beq_eq_false_iff_ne.2 k3
          clear k0 k1 k2 k3
          go_enter Try.func19, Try.ntmps19
          go_wp2_with fail
          go_ret
          exact ⟨rfl, h1, ho1⟩

theorem only_pq {l : List Nat} {a b c : World} {p q : Nat} (h : Only l a b) (k : Only [p, q] b c) (hp : a.heap.size ≤ p) (hq : a.heap.size ≤ q) : Only l a c :=
  h.then_ k (fun i hi => .inr (by
    have : i = p ∨ i = q := by simpa using hi
    omega))

/-- A slice of calls reads as the list. -/
def ReadsA (w : World) (A : Option Addr) (n : Nat) (l : List (Int × Int)) : Prop := l.length = n ∧ (∀ j, j < n → I64 (l.getD j (0, 0)).1 ∧ I64 (l.getD j (0, 0)).2) ∧
  (0 < n → ∃ ad, A = some ad ∧ ∀ j, j < n → w.cell? (ad.add (j * 2)) = some (.int .i64 (l.getD j (0, 0)).1) ∧ w.cell? ⟨(ad.add (j * 2)).block, (ad.add (j * 2)).off + 1, none⟩ = some (.int .i64 (l.getD j (0, 0)).2))
theorem ReadsA.only {w w' : World} {A : Option Addr} {n : Nat} {l : List (Int × Int)} {L : List Nat} (h : ReadsA w A n l) (ho : Only L w w') (hn : ∀ ad, A = some ad → ad.block ∉ L) : ReadsA w' A n l := by
  obtain ⟨h1, h2, h3⟩ := h
  refine ⟨h1, h2, fun h0 => ?_⟩
  obtain ⟨ad, rfl, hc⟩ := h3 h0
  refine ⟨ad, rfl, fun j hj => ?_⟩
  obtain ⟨c1, c2⟩ := hc j hj
  have hb1 := World.block_lt_of_cell? w _ c1
  have hb : ∀ j, (ad.add j).block = ad.block := fun j => by unfold Addr.add; split <;> rfl
  have hnn : (ad.add (j * 2)).block ∉ L := by rw [hb]; exact hn ad rfl
  exact ⟨(ho.cell hb1 hnn).trans c1, (ho.cell (p := ⟨(ad.add (j * 2)).block, (ad.add (j * 2)).off + 1, none⟩) hb1 hnn).trans c2⟩

/-- The calls, one after the other. -/
def Sp.acts (s : Sp) (l : List (Int × Int)) : Sp := l.foldl (fun s x => (s.act x).2) s

theorem Sp.acts_succ (s : Sp) (l : List (Int × Int)) (k : Nat) (hk : k < l.length) : s.acts (l.take (k + 1)) = ((s.acts (l.take k)).act (l.getD k (0, 0))).2 := by
  unfold Sp.acts
  rw [List.take_succ_eq_append_getElem hk, List.foldl_append]
  simp [List.getD_eq_getElem?_getD, List.getElem?_eq_getElem hk]

set_option maxHeartbeats 2000000 in
theorem made_any (w : World) (start size pages batch : Int) (hs : I64 start) (A : Option Addr) (n c : Nat) (l : List (Int × Int)) (hr : ReadsA w A n l) (hn : n ≤ 4611686018427387904) :
    Calls Try.prog 10 #[.int .i64 start, .agg #[.int .i64 size, .int .i64 pages, .int .i64 batch], .slice A n c] w fun e w' =>
      (Sp.fits start size pages batch → ∃ p q cap, e = .returned (.pointer (some ⟨p, 0, none⟩)) ∧ SpanAt w' p q cap ((Sp.fresh start size pages batch).acts l) ∧ w.heap.size ≤ p ∧ w.heap.size ≤ q) ∧
      (¬ Sp.fits start size pages batch → e = .returned (.pointer none)) ∧ Only [] w w' := by
  obtain ⟨hs0, hs1⟩ := hs
  have b1 := Blk.new w 23 #[.int .i64 size, .int .i64 pages, .int .i64 batch]
  have ho1 := (Only.refl [] w).alloc (.cells #[.int .i64 size, .int .i64 pages, .int .i64 batch] 23)
  have C := New_any (w.alloc (.cells #[.int .i64 size, .int .i64 pages, .int .i64 batch] 23)) start size pages batch hs0 hs1
  by_cases hf : Sp.fits start size pages batch
  · replace C := C.mono (fun e w' h => (⟨h.1 hf, h.2.2⟩ : (_ ∧ _)))
    have HF := Lib.hid hf
    clear hf
    have HR := Lib.hid hr
    clear hr
    go_enter Try.func10, Try.ntmps10
    go_wp2_with (first | (go_at_call 27; refine C.mono ?_; rintro e w2 ⟨⟨p, q, cap, rfl, h2, hp, hq⟩, ho2⟩))
    obtain ⟨HL, HI, HC⟩ := HR.out
    have HL := Lib.hid HL
    have hp' : w.heap.size ≤ p := by simp at hp; omega
    have hq' : w.heap.size ≤ q := by simp at hq; omega
    clear hp hq
    go_loopw [9] (fun t wr => ∃ k : Nat, k ≤ n ∧ t = .int .i64 k ∧ SpanAt wr p q cap ((Sp.fresh start size pages batch).acts (l.take k)) ∧ Only [] w wr) (fun t _ => n - (intOf t).toNat)
    case atStart => exact ⟨0, Nat.zero_le _, rfl, h2, ho1.trans ho2⟩
    case round =>
      obtain ⟨k, hk, rfl, hsp, ho⟩ := hrel
      by_cases hlt : k < n
      · have HS := Lib.hid (Sp.acts_succ (Sp.fresh start size pages batch) l k (by rw [HL.out]; exact hlt))
        obtain ⟨ad, rfl, hc⟩ := (HR.out.only ho (by simp)).2.2 (by omega)
        obtain ⟨c1, c2⟩ := hc k hlt
        have hi := HI k hlt
        have hsz := ho.size
        clear hc HC HI
        obtain ⟨x, hx⟩ : ∃ x, x = l.getD k (0, 0) := ⟨_, rfl⟩
        rw [← hx] at c1 c2 hi HS
        clear hx
        obtain ⟨xk, xa⟩ := x
        dsimp only at c1 c2 hi
        go_wp2_with (first | (go_at_call 19; refine (do_at hsp xk xa hi.2).mono ?_; rintro e w3 ⟨rfl, h3, ho3⟩))
        go_roundw
        case rel => exact ⟨k + 1, by omega, by go_num, by rw [HS.out]; exact h3, only_pq ho ho3 hp' hq'⟩
        case measure => simp [intOf]; omega
      · have e : k = n := by omega
        subst e
        go_wp2
        go_ret
        exact ⟨fun _ => ⟨p, q, cap, rfl, by rwa [List.take_of_length_le (by rw [HL.out]; exact Nat.le_refl _)] at hsp, hp', hq'⟩, fun h => absurd HF.out h, ho⟩
  · replace C := C.mono (fun e w' h => (⟨h.2.1 hf, h.2.2⟩ : (_ ∧ _)))
    have HF := Lib.hid hf
    clear hf
    go_enter Try.func10, Try.ntmps10
    go_wp2_with (first | (go_at_call 27; refine C.mono ?_; rintro e w2 ⟨rfl, ho2⟩))
    go_ret
    exact ⟨fun h => absurd h HF.out, fun _ => rfl, ho1.trans ho2⟩
end Go.Proofs.Ytnflfolonfmchaa
