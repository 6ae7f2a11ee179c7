/- slices.BinarySearchFunc among the entries, by their starts. -/
import Derived.Test.YtlmjelcnldlagaaZLF
import Derived.Deep.RegionLaw
import Derived.Deep.AppendLies
set_option linter.unusedVariables false
set_option linter.unusedSimpArgs false
namespace Go.Proofs.Ytlmjelcnldlagaa
open Go.RowKit

theorem cmp_any (w : World) (m s x : Int) (p : Value) (hp : p.oneCell' = true) (hs : 0 ≤ s ∧ s ≤ 1024) (hx : 0 ≤ x ∧ x ≤ 1024) : Grew Try.prog 50 #[.agg #[.int .i64 m, .int .i64 s, p], .int .i64 x] w (.int .i64 (s - x)) := by
  obtain ⟨s1, s2⟩ := hs
  obtain ⟨x1, x2⟩ := hx
  have ho := (Only.refl [] w).alloc (.cells #[.int .i64 m, .int .i64 s, p] 75)
  go_enter Try.func50, Try.ntmps50
  go_wp2_with fail
  go_ret
  exact ⟨rfl, ho⟩

/-- Where a start belongs. -/
def posTo (M : List Sp) (x : Int) : Nat → Nat
  | 0 => 0
  | k + 1 => if (sAt M k).start < x then k + 1 else posTo M x k
theorem posTo_le (M : List Sp) (x : Int) (k : Nat) : posTo M x k ≤ k := by
  induction k with
  | zero => exact Nat.le_refl _
  | succ k ih => rw [posTo]; split <;> omega
/-- The place at which the starts that are less end. -/
theorem posTo_eq {M : List Sp} {x : Int} {n i : Nat} (hi : i ≤ n) (h1 : ∀ j, j < i → (sAt M j).start < x) (h2 : ∀ j, i ≤ j → j < n → ¬ (sAt M j).start < x) : posTo M x n = i := by
  induction n with
  | zero => rw [posTo]; omega
  | succ n ih =>
    rw [posTo]
    by_cases h : i ≤ n
    · rw [if_neg (h2 n h (by omega))]
      exact ih h (fun j a b => h2 j a (by omega))
    · have : i = n + 1 := by omega
      subst this
      rw [if_pos (h1 n (by omega))]

set_option maxRecDepth 100000 in
set_option maxHeartbeats 4000000 in
theorem bsearch_any {w : World} {P : Nat} {A : Value} {c : Cl} {L : List En} (h : ListAt w P A c L) (x : Int) (hx : 0 ≤ x ∧ x ≤ 1024) :
    Calls Try.prog 49 #[A, .int .i64 x, .func (.func 50) #[] #[]] w fun e w' => Only [] w w' ∧ ∃ f : Bool, e = .returned (.tuple #[.int .i64 (posTo (spans L) x L.length : Nat), .bool f]) := by
  obtain ⟨ad, cp, rfl⟩ := h.slice
  have HA := Lib.hid h
  have hn := h.len
  obtain ⟨N, hN⟩ : ∃ N, N = L.length := ⟨_, rfl⟩
  rw [← hN] at hn ⊢
  have HN := Lib.hid hN
  have HST := Lib.hid (fun j (hj : j < N) => show 0 ≤ (eAt L j).s.start ∧ (eAt L j).s.start ≤ 1024 from (by
    have g := (h.get (show j < L.length by rw [← hN]; exact hj)).1.good
    have := g.b1
    have := g.b2
    have := g.p1
    omega))
  have HORD := Lib.hid (fun i j (hij : i < j) (hj : j < N) => show (eAt L i).s.start < (eAt L j).s.start from (by
    have g := (h.get (show i < L.length by rw [← hN]; omega)).1.good
    have := (h.apart hij (show j < L.length by rw [← hN]; exact hj)).ord
    have := g.p1
    omega))
  have HX := Lib.hid hx
  clear h hN hx
  go_enter Try.func49, Try.ntmps49
  go_wp2_with fail
  go_loopw [9, 10] (fun a b wr => ∃ lo hi : Nat, a = .int .i64 lo ∧ b = .int .i64 hi ∧ lo ≤ hi ∧ hi ≤ N ∧ Only [] w wr ∧ (∀ j, j < lo → (eAt L j).s.start < x) ∧ (∀ j, hi ≤ j → j < N → x ≤ (eAt L j).s.start)) (fun a b _ => ((intOf b).toNat - (intOf a).toNat))
  case atStart => exact ⟨0, N, rfl, rfl, Nat.zero_le _, Nat.le_refl _, Only.refl _ _, fun j hj => absurd hj (by omega), fun j h1 h2 => absurd h2 (by omega)⟩
  case round =>
    obtain ⟨lo, hi, rfl, rfl, hlh, hin, ho, h1, h2⟩ := hrel
    have hr := HA.out.still ho
    have H1 := Lib.hid h1
    have H2 := Lib.hid h2
    clear h1 h2
    by_cases hlt : lo < hi
    · have d1 : decide ((lo : Int) < hi) = true := decide_eq_true (by omega)
      obtain ⟨g, cp', e1⟩ := hr.form (by rw [← HN.out]; omega)
      injection e1 with e1 _ e3
      subst e1 e3
      obtain ⟨k, hk⟩ : ∃ k, k = (lo + hi) / 2 := ⟨_, rfl⟩
      have hkN : k < N := by omega
      have hk1 : ((lo : Int) + (hi : Int)) / 2 = k := by omega
      obtain ⟨q0, q1, q2, qf⟩ := own_ents hr.row rfl (j := k) (by rw [← HN.out]; exact hkN)
      have CC := Lib.hid (cmp_any wr (eAt L k).s.many (eAt L k).s.start x (.pointer (some ⟨(eAt L k).p, 0, none⟩)) rfl (HST.out k hkN) HX.out)
      have HK := Lib.hid hk
      clear hr
      by_cases hsx : (eAt L k).s.start < x
      · have d2 : decide ((eAt L k).s.start - x < 0) = true := decide_eq_true (by omega)
        have HSX := Lib.hid hsx
        clear hsx hk
        generalize hst : (eAt L k).s.start = st at *
        have HS := Lib.hid hst
        clear hst
        generalize (eAt L k).s.many = mn at *
        go_wp2_with (go_at_call 50; with_reducible refine Grew.use CC.out (fun w1 ho1 => ?_))
        go_roundw
        case rel => exact ⟨k + 1, hi, by go_num, rfl, by have := HK.out; omega, hin, ho.trans ho1, fun j hj => (by
          rcases Nat.lt_or_ge j k with h1 | h1
          · have a1 := HORD.out j k h1 hkN
            rw [HS.out] at a1
            have a2 := HSX.out
            omega
          · rw [show j = k by omega, HS.out]
            exact HSX.out), H2.out⟩
        case measure => simp [intOf]; have := HK.out; omega
      · have d2 : decide ((eAt L k).s.start - x < 0) = false := decide_eq_false (by omega)
        have HSX := Lib.hid hsx
        clear hsx hk
        generalize hst : (eAt L k).s.start = st at *
        have HS := Lib.hid hst
        clear hst
        generalize (eAt L k).s.many = mn at *
        go_wp2_with (go_at_call 50; with_reducible refine Grew.use CC.out (fun w1 ho1 => ?_))
        go_roundw
        case rel => exact ⟨lo, k, rfl, by go_num, by have := HK.out; omega, by omega, ho.trans ho1, H1.out, fun j h1 h2 => (by
          rcases Nat.lt_or_ge k j with h3 | h3
          · have a1 := HORD.out k j h3 h2
            rw [HS.out] at a1
            have a2 := HSX.out
            omega
          · rw [show j = k by omega, HS.out]
            have a2 := HSX.out
            omega)⟩
        case measure => simp [intOf]; have := HK.out; omega
    · obtain rfl : lo = hi := by omega
      have d1 : decide ((lo : Int) < lo) = false := decide_eq_false (by omega)
      have HP : Hid (posTo (spans L) x N = lo) := posTo_eq hin (fun j hj => by rw [sAt_spans]; exact H1.out j hj) (fun j h1 h2 => by rw [sAt_spans]; have := H2.out j h1 h2; omega)
      by_cases hlN : lo < N
      · have d2 : decide ((lo : Int) < N) = true := decide_eq_true (by omega)
        obtain ⟨g, cp', e1⟩ := hr.form (by rw [← HN.out]; omega)
        injection e1 with e1 _ e3
        subst e1 e3
        obtain ⟨q0, q1, q2, qf⟩ := own_ents hr.row rfl (j := lo) (by rw [← HN.out]; exact hlN)
        have CC := Lib.hid (cmp_any wr (eAt L lo).s.many (eAt L lo).s.start x (.pointer (some ⟨(eAt L lo).p, 0, none⟩)) rfl (HST.out lo hlN) HX.out)
        clear hr hlt
        generalize (eAt L lo).s.start = st at *
        generalize (eAt L lo).s.many = mn at *
        obtain ⟨b, hb⟩ : ∃ b, ((st - x) == 0) = b := ⟨_, rfl⟩
        go_wp2_with (go_at_call 50; with_reducible refine Grew.use CC.out (fun w1 ho1 => ?_))
        go_ret2
        exact ⟨ho.trans ho1, b, by rw [HP.out]; rfl⟩
      · have d2 : decide ((lo : Int) < N) = false := decide_eq_false (by omega)
        clear hr hlt
        go_wp2_with fail
        go_ret2
        first | exact ⟨ho, false, by rw [HP.out]; rfl⟩ | exact ⟨ho, .inl (by rw [HP.out]; rfl)⟩
end Go.Proofs.Ytlmjelcnldlagaa
/- Add of the list. -/
set_option linter.unusedVariables false
set_option linter.unusedSimpArgs false
namespace Go.Proofs.Ytlmjelcnldlagaa
open Go.RowKit

/-- A span among the first k is less than so many pages away. -/
def closeTo (M : List Sp) (x pages : Int) : Nat → Bool
  | 0 => false
  | k + 1 => closeTo M x pages k || decide (max (sAt M k).start x - min (sAt M k).start x < pages)
theorem closeTo_false {M : List Sp} {x pages : Int} {n : Nat} (h : closeTo M x pages n = false) (j : Nat) (hj : j < n) : ¬ max (sAt M j).start x - min (sAt M j).start x < pages := by
  induction n with
  | zero => omega
  | succ n ih =>
    rw [closeTo, Bool.or_eq_false_iff] at h
    by_cases h1 : j = n
    · subst h1; exact of_decide_eq_false h.2
    · exact ih h.1 (by omega)
theorem closeTo_true {M : List Sp} {x pages : Int} {n j : Nat} (hj : j < n) (h : max (sAt M j).start x - min (sAt M j).start x < pages) : closeTo M x pages n = true := by
  cases hc : closeTo M x pages n with
  | true => rfl
  | false => exact absurd h (closeTo_false hc j hj)
def addE (M : List Sp) (c : Cl) (x : Int) : Int := if ¬ Sp.fits x c.size c.pages c.batch then 1 else if closeTo M x c.pages M.length then 9 else 0
def addM (M : List Sp) (c : Cl) (x : Int) : List Sp := if addE M c x = 0 then M.take (posTo M x M.length) ++ [Sp.fresh x c.size c.pages c.batch] ++ M.drop (posTo M x M.length) else M

theorem posTo_spec {M : List Sp} {x : Int} (n : Nat) (hs : ∀ i j, i < j → j < n → (sAt M i).start < (sAt M j).start) : (∀ j, j < posTo M x n → (sAt M j).start < x) ∧ (∀ j, posTo M x n ≤ j → j < n → x ≤ (sAt M j).start) := by
  induction n with
  | zero => exact ⟨fun j hj => absurd hj (by rw [posTo]; omega), fun j h1 h2 => absurd h2 (by omega)⟩
  | succ n ih =>
    rw [posTo]
    by_cases h : (sAt M n).start < x
    · rw [if_pos h]
      refine ⟨fun j hj => ?_, fun j h1 h2 => absurd h2 (by omega)⟩
      by_cases h1 : j = n
      · rw [h1]; exact h
      · have := hs j n (by omega) (by omega)
        omega
    · rw [if_neg h]
      obtain ⟨i1, i2⟩ := ih (fun i j a b => hs i j a (by omega))
      refine ⟨i1, fun j h1 h2 => ?_⟩
      by_cases h3 : j = n
      · rw [h3]; omega
      · exact i2 j h1 (by omega)

theorem mem_take {L : List En} {e : En} {k : Nat} (h : e ∈ L.take k) : ∃ i, i < k ∧ i < L.length ∧ e = eAt L i := by
  obtain ⟨i, hi, rfl⟩ := List.getElem_of_mem h
  rw [List.length_take] at hi
  exact ⟨i, by omega, by omega, by rw [List.getElem_take, eAt, List.getD_eq_getElem?_getD, List.getElem?_eq_getElem (by omega)]; rfl⟩
theorem mem_drop {L : List En} {e : En} {k : Nat} (h : e ∈ L.drop k) : ∃ i, k ≤ i ∧ i < L.length ∧ e = eAt L i := by
  obtain ⟨i, hi, rfl⟩ := List.getElem_of_mem h
  rw [List.length_drop] at hi
  exact ⟨k + i, by omega, by omega, by rw [List.getElem_drop, eAt, List.getD_eq_getElem?_getD, List.getElem?_eq_getElem (by omega)]; rfl⟩
theorem entCells_take (L : List En) (k : Nat) (hk : k ≤ L.length) : entCells (L.take k) = (entCells L).take (k * 3) ∧ entCells (L.drop k) = (entCells L).drop (k * 3) := by
  have h1 : entCells L = entCells (L.take k) ++ entCells (L.drop k) := by rw [← entCells_append, List.take_append_drop]
  have h2 : (entCells (L.take k)).length = k * 3 := by rw [entCells_len, List.length_take]; congr 1; omega
  constructor
  · rw [h1, ← h2, List.take_left]
  · rw [h1, ← h2, List.drop_left]
theorem entCells_one (L : List En) : ∀ v ∈ entCells L, v.oneCell' = true := by
  intro v hv
  obtain ⟨e, _, he⟩ := List.mem_flatMap.1 hv
  simp at he
  rcases he with rfl | rfl | rfl <;> rfl

/-- A span put in. -/
theorem ListAt.insert {w w' : World} {P : Nat} {A A' : Value} {c : Cl} {L : List En} {e : En} {k : Nat} (h : ListAt w P A c L) (hk : k ≤ L.length)
    (hblk : Blk w' P 68 #[.int .i64 c.size, .int .i64 c.pages, .int .i64 c.batch, A']) (hrow : w'.ownsRow 0 75 3 A' (L.length + 1) ((entCells L).take (k * 3) ++ [.int .i64 e.s.many, .int .i64 e.s.start, .pointer (some ⟨e.p, 0, none⟩)] ++ (entCells L).drop (k * 3)))
    (hsp : ∀ x ∈ L, SpanAt w' x.p x.q x.cap x.s) (he : SpanAt w' e.p e.q e.cap e.s ∧ e.s.of c) (hneL : ∀ x ∈ L, A'.ownBlock ≠ some x.p ∧ A'.ownBlock ≠ some x.q) (hneE : e.p ≠ P ∧ e.q ≠ P ∧ A'.ownBlock ≠ some e.p ∧ A'.ownBlock ≠ some e.q) (hnA : A'.ownBlock ≠ some P)
    (hd : ∀ x ∈ L, x.p ≠ e.p ∧ x.p ≠ e.q ∧ x.q ≠ e.p ∧ x.q ≠ e.q) (h1 : ∀ j, j < k → (eAt L j).s.start + c.pages ≤ e.s.start) (h2 : ∀ j, k ≤ j → j < L.length → e.s.start + c.pages ≤ (eAt L j).s.start) :
    ListAt w' P A' c (L.take k ++ [e] ++ L.drop k) := by
  have hm : ∀ x, x ∈ L.take k ++ [e] ++ L.drop k → x ∈ L ∨ x = e := fun x hx => by
    simp at hx
    rcases hx with hx | rfl | hx
    · exact .inl (List.mem_of_mem_take hx)
    · exact .inr rfl
    · exact .inl (List.mem_of_mem_drop hx)
  refine ⟨hblk, h.one, ?_, fun x hx => ?_, fun x hx => ?_, hnA, ?_⟩
  · obtain ⟨t1, t2⟩ := entCells_take L k hk
    rw [show (L.take k ++ [e] ++ L.drop k).length = L.length + 1 by simp; omega, entCells_append, entCells_append, t1, t2]
    exact hrow
  · rcases hm x hx with h1 | rfl
    · exact ⟨hsp x h1, (h.sp x h1).2⟩
    · exact he
  · rcases hm x hx with h1 | rfl
    · have := h.ne x h1
      exact ⟨this.1, this.2.1, hneL x h1⟩
    · exact hneE
  · have hap := h.ap
    rw [← List.take_append_drop k L, List.pairwise_append] at hap
    rw [List.append_assoc, List.pairwise_append, List.pairwise_append]
    refine ⟨hap.1, ⟨List.pairwise_singleton _ _, hap.2.1, fun a ha b hb => ?_⟩, fun a ha b hb => ?_⟩
    · simp at ha
      subst ha
      obtain ⟨i, i1, i2, rfl⟩ := mem_drop hb
      have := hd _ (eAt_mem i2)
      exact ⟨by rw [he.2.2.1]; exact h2 i i1 i2, Ne.symm this.1, Ne.symm this.2.2.1, Ne.symm this.2.1, Ne.symm this.2.2.2⟩
    · rcases List.mem_append.1 hb with hb | hb
      · simp at hb
        subst hb
        obtain ⟨i, i1, i2, rfl⟩ := mem_take ha
        have := hd _ (eAt_mem i2)
        have hof := (h.get i2).2.2.1
        exact ⟨by rw [hof]; exact h1 i i1, this.1, this.2.1, this.2.2.1, this.2.2.2⟩
      · exact hap.2.2 a ha b hb
end Go.Proofs.Ytlmjelcnldlagaa
/- Add of the list, walked. -/
set_option linter.unusedVariables false
set_option linter.unusedSimpArgs false
namespace Go.Proofs.Ytlmjelcnldlagaa
open Go.RowKit

theorem own_lt {w : World} {base : Nat} {e : TypeId} {size n : Nat} {v : Value} {xs : List Value} (h : w.ownsRow base e size v n xs) : ∀ k, v.ownBlock = some k → k < w.heap.size := by
  intro k hk
  rcases h.2 with ⟨rfl, _⟩ | ⟨g, cap, cur, rfl, _, hg, _⟩
  · cases hk
  · have : g = k := by injection hk
    subst this
    exact (show Blk w g e cur from hg).lt

theorem Sp.fits_range {x size pages batch : Int} (h : Sp.fits x size pages batch) : 0 ≤ x ∧ x ≤ 1024 ∧ 1 ≤ pages ∧ pages ≤ 4 := by
  obtain ⟨⟨_, _, _, h1, h2, _⟩, h3, h4⟩ := h
  omega

set_option maxRecDepth 100000 in
set_option maxHeartbeats 8000000 in
theorem lAdd_at {w : World} {P : Nat} {bl : List Nat} {c : Cl} {M : List Sp} (h : ListSt w P bl c M) (x : Int) (hx : I64 x) :
    Calls Try.prog 23 #[.pointer (some ⟨P, 0, none⟩), .int .i64 x] w fun e w' => e = .returned (.int .i64 (addE M c x)) ∧ LTurn w P bl w' c (addM M c x) := by
  have CM := Lib.hid (lmade_st h)
  obtain ⟨⟨A, L, hA, rfl, hI⟩, hlt0⟩ := h
  have HA := Lib.hid hA
  have HI := Lib.hid hI
  have HLT := Lib.hid hlt0
  have CN := Lib.hid (New_any w x c.size c.pages c.batch hx.1 hx.2)
  have z0 := hA.blk.cell_ 0 rfl
  have z1 := hA.blk.cell_ 1 rfl
  have z2 := hA.blk.cell_ 2 rfl
  clear hA hI hlt0
  by_cases hf : ¬ Sp.fits x c.size c.pages c.batch
  · have HF := Lib.hid hf
    have E1 : Hid (addE (spans L) c x = 1) := if_pos hf
    have E2 : Hid (addM (spans L) c x = spans L) := by show _ = _; rw [addM, E1.out, if_neg (by decide)]
    clear hf
    go_enter Try.func23, Try.ntmps23
    go_wp2_with (first | (go_at_call 37; with_reducible refine Still.use CM.out ?_))
    refine CN.out.mono ?_
    rintro e w1 ⟨_, h1, ho1⟩
    rw [h1 HF.out]
    clear h1
    go_wp2_with fail
    go_ret
    exact ⟨by rw [E1.out]; rfl, by rw [E2.out]; exact LTurn.same ⟨⟨A, L, HA.out, rfl, HI.out⟩, HLT.out⟩ ho1⟩
  replace hf := Decidable.not_not.1 hf
  obtain ⟨x1, x2, p1, p2⟩ := Sp.fits_range hf
  have HF := Lib.hid hf
  clear hf
  obtain ⟨ad, cp, rfl⟩ := HA.out.slice
  have hn := HA.out.len
  obtain ⟨N, hN⟩ : ∃ N, N = L.length := ⟨_, rfl⟩
  have HN := Lib.hid hN
  rw [← hN] at hn
  have Z3 := Lib.hid (fun W (ho : Only [] w W) => show W.cell? ⟨P, 3, none⟩ = some (.slice ad N cp) by rw [hN]; exact (HA.out.still ho).blk.cell_ 3 rfl)
  have Z1 := Lib.hid (fun W (ho : Only [] w W) => (HA.out.still ho).blk.cell_ 1 rfl)
  clear hN
  go_enter Try.func23, Try.ntmps23
  go_wp2_with (first | (go_at_call 37; with_reducible refine Still.use CM.out ?_))
  refine CN.out.mono ?_
  rintro e w1 ⟨h1, _, ho1⟩
  obtain ⟨p, q, cap, rfl, hsp, hp, hq⟩ := h1 HF.out
  have HSP := Lib.hid hsp
  have y3 := Z3.out w1 ho1
  clear h1 hsp CN z0 z1 z2
  go_wp2_with fail
  go_loopw [31] (fun t wr => ∃ k : Nat, k ≤ N ∧ t = .int .i64 k ∧ Only [] w1 wr ∧ closeTo (spans L) x c.pages k = false) (fun t _ => N - (intOf t).toNat)
  case atStart => exact ⟨0, Nat.zero_le _, rfl, Only.refl _ _, rfl⟩
  case round =>
    obtain ⟨k, hk, rfl, ho, hcl⟩ := hrel
    have HCL := Lib.hid hcl
    have hoW := ho1.trans ho
    have hr := HA.out.still hoW
    clear hcl
    by_cases hlt : k < N
    · have d1 : decide ((k : Int) < N) = true := decide_eq_true (by omega)
      obtain ⟨g, cp', e1⟩ := hr.form (by rw [← HN.out]; omega)
      injection e1 with e1 _ e3
      subst e1 e3
      obtain ⟨q0, q1, q2, qf⟩ := own_ents hr.row rfl (j := k) (by rw [← HN.out]; exact hlt)
      have z1 := Z1.out wr hoW
      have hst : 0 ≤ (eAt L k).s.start ∧ (eAt L k).s.start ≤ 1024 := by
        have g := (hr.get (show k < L.length by rw [← HN.out]; exact hlt)).1.good
        have := g.b1
        have := g.b2
        have := g.p1
        omega
      obtain ⟨s1, s2⟩ := hst
      have HS := Lib.hid (sAt_spans L k)
      by_cases hcls : max (eAt L k).s.start x - min (eAt L k).s.start x < c.pages
      · have E1 : Hid (addE (spans L) c x = 9) := by
          show _ = _
          rw [addE, if_neg (fun h => h HF.out), if_pos (closeTo_true (j := k) (by rw [spans_len, ← HN.out]; exact hlt) (by rw [sAt_spans]; exact hcls))]
        have E2 : Hid (addM (spans L) c x = spans L) := by show _ = _; rw [addM, E1.out, if_neg (by decide)]
        have hoB := hoW.alloc (.cells #[.int .i64 (eAt L k).s.many, .int .i64 (eAt L k).s.start, .pointer (some ⟨(eAt L k).p, 0, none⟩)] 75)
        have z1' := Z1.out _ hoB
        have bE := Blk.new wr 75 #[.int .i64 (eAt L k).s.many, .int .i64 (eAt L k).s.start, .pointer (some ⟨(eAt L k).p, 0, none⟩)]
        generalize (eAt L k).s.start = st at *
        generalize (eAt L k).s.many = mn at *
        clear hr qf
        go_wp2_with fail
        generalize wr.alloc (.cells #[.int .i64 mn, .int .i64 st, .pointer (some ⟨(eAt L k).p, 0, none⟩)] 75) = w2 at *
        have v1 := bE.cell_ 1 rfl
        have d2 : decide (max st x - min st x < c.pages) = true := decide_eq_true hcls
        go_region
        go_wp2_with fail
        go_ret
        exact ⟨by rw [E1.out]; rfl, by rw [E2.out]; exact LTurn.same ⟨⟨_, L, HA.out, rfl, HI.out⟩, HLT.out⟩ hoB.drew⟩
      · have HC2 : Hid (closeTo (spans L) x c.pages (k + 1) = false) := by show _ = _; rw [closeTo, HCL.out, sAt_spans, decide_eq_false hcls]; rfl
        have hoB := hoW.alloc (.cells #[.int .i64 (eAt L k).s.many, .int .i64 (eAt L k).s.start, .pointer (some ⟨(eAt L k).p, 0, none⟩)] 75)
        have hoC := ho.alloc (.cells #[.int .i64 (eAt L k).s.many, .int .i64 (eAt L k).s.start, .pointer (some ⟨(eAt L k).p, 0, none⟩)] 75)
        have z1' := Z1.out _ hoB
        have bE := Blk.new wr 75 #[.int .i64 (eAt L k).s.many, .int .i64 (eAt L k).s.start, .pointer (some ⟨(eAt L k).p, 0, none⟩)]
        generalize (eAt L k).s.start = st at *
        generalize (eAt L k).s.many = mn at *
        clear hr qf
        go_wp2_with fail
        generalize wr.alloc (.cells #[.int .i64 mn, .int .i64 st, .pointer (some ⟨(eAt L k).p, 0, none⟩)] 75) = w2 at *
        have v1 := bE.cell_ 1 rfl
        have d2 : decide (max st x - min st x < c.pages) = false := decide_eq_false (by omega)
        go_region
        go_wp2_with fail
        go_roundw
        case rel => exact ⟨k + 1, by omega, by go_num, hoC.drew, HC2.out⟩
        case measure => simp [intOf]; omega
    · have e : k = N := by omega
      subst e
      have d1 : decide ((k : Int) < k) = false := decide_eq_false (by omega)
      have E1 : Hid (addE (spans L) c x = 0) := by
        show _ = _
        rw [addE, if_neg (fun h => h HF.out), if_neg]
        rw [spans_len, ← HN.out, HCL.out]
        decide
      have E2 : Hid (addM (spans L) c x = (spans L).take (posTo (spans L) x L.length) ++ [Sp.fresh x c.size c.pages c.batch] ++ (spans L).drop (posTo (spans L) x L.length)) := by show _ = _; rw [addM, E1.out, if_pos rfl, spans_len]
      have CB := Lib.hid (bsearch_any hr x ⟨x1, x2⟩)
      have hple := posTo_le (spans L) x L.length
      obtain ⟨S1, S2⟩ := posTo_spec (M := spans L) (x := x) L.length (fun i j hij hj => by
        rw [sAt_spans, sAt_spans]
        have h1 := (hr.apart hij hj).ord
        have h2 := (hr.get (show i < L.length by omega)).1.good.p1
        omega)
      have HS1 := Lib.hid S1
      have HS2 := Lib.hid S2
      obtain ⟨pos, hpos⟩ : ∃ pos, pos = posTo (spans L) x L.length := ⟨_, rfl⟩
      rw [← hpos] at CB hple E2 HS1 HS2
      have HPOS := Lib.hid hple
      have HO := Lib.hid hoW
      clear S1 S2 hr hpos
      have HCLS := Lib.hid (fun j (hj : j < L.length) => closeTo_false HCL.out j (by rw [HN.out]; exact hj))
      rw [← HN.out] at hple CB
      have y3w := Z3.out wr hoW
      go_wp2_with fail
      refine CB.out.mono ?_
      rintro e w3 ⟨ho3, f, rfl⟩
      have hoX := HO.out.trans ho3
      have hA3 := HA.out.still hoX
      have y3 := Z3.out w3 hoX
      have hA3a := hA3.still ((Only.refl [] w3).alloc (.cells #[.int .i64 0, .int .i64 x, .pointer (some ⟨p, 0, none⟩)] 75))
      have CI := Lib.hid (linsert_any (w3.alloc (.cells #[.int .i64 0, .int .i64 x, .pointer (some ⟨p, 0, none⟩)] 75)) 0 _ _ pos _ hA3a.row (entCells_one L) HPOS.out w3.heap.size _ _ _ (Blk.new w3 _ _) (fun e => by
        have := own_lt hA3.row w3.heap.size e
        omega) ⟨rfl, rfl, rfl⟩ (by rw [← HN.out]; omega) (Nat.zero_le _))
      rw [← HN.out] at CI
      have HA3 := Lib.hid hA3a
      clear hA3 hA3a
      go_wp2_with fail
      refine CI.out.mono ?_
      rintro e w4 ⟨v', rfl, hrow, ho4, hob⟩
      rw [HN.out] at hrow ho4 hob
      obtain ⟨A', c', rfl, _⟩ := own_slice hrow
      have hAX := HA3.out
      have nP : P ∉ (Value.ownBlock (.slice ad L.length cp)).toList := fun h => hAX.nA (Option.mem_toList.1 h)
      have bP4 := hAX.blk.only ho4 nP
      have y4 : w4.cell? ⟨P, 3, none⟩ = some (.slice ad k cp) := by rw [HN.out]; exact bP4.cell_ 3 rfl
      have yf := bP4.frozen 3
      have HROW := Lib.hid hrow
      have HO4 := Lib.hid ho4
      have HOB := Lib.hid hob
      have HNP := Lib.hid nP
      have hz3 := hoX.size
      have hz4 := ho4.size
      rw [World.size_alloc] at hz4
      clear hrow ho4 hob nP hAX
      go_wp2_with fail
      go_ret
      have hA := HA.out
      have hAX := HA3.out
      have oS : Only [P] w4 (w4.setCell ⟨P, 3, none⟩ (.slice A' (L.length + 1) c')) := (Only.refl [P] w4).setCell (.inl (by simp)) _
      have hsz5 := oS.size
      have hoT : Only (Value.ownBlock (.slice ad L.length cp)).toList w w4 := (hoX.alloc _).of_nil.trans HO4.out
      have oL : ∀ b, b ∈ (Value.ownBlock (.slice ad L.length cp)).toList → b < w.heap.size := fun b hb => own_lt hA.row b (Option.mem_toList.1 hb)
      have hvP : (Value.ownBlock (.slice A' (L.length + 1) c')) ≠ some P := by
        rcases HOB.out with h | h
        · rw [h]; exact hA.nA
        · rw [h]; intro e; injection e with e; have := hA.blk.lt; rw [World.size_alloc] at e; omega
      have hPlt := hA.blk.lt
      have hspE : SpanAt w4 p q cap (Sp.fresh x c.size c.pages c.batch) := ((HSP.out.only (ho.trans ho3) (by simp) (by simp)).alloc _).only HO4.out (fun hb => by have := oL p hb; omega) (fun hb => by have := oL q hb; omega)
      have hspE5 : SpanAt (w4.setCell ⟨P, 3, none⟩ (.slice A' (L.length + 1) c')) p q cap (Sp.fresh x c.size c.pages c.batch) := hspE.only oS (by simp; omega) (by simp; omega)
      have hspL : ∀ y ∈ L, SpanAt (w4.setCell ⟨P, 3, none⟩ (.slice A' (L.length + 1) c')) y.p y.q y.cap y.s := fun y hy => by
        have hn := hA.ne y hy
        exact ((hA.sp y hy).1.only hoT (fun h => hn.2.2.1 (Option.mem_toList.1 h)) (fun h => hn.2.2.2 (Option.mem_toList.1 h))).only oS (by simpa using hn.1) (by simpa using hn.2.1)
      have hrow5 := own_only HROW.out oS (fun k hk hb => by
        simp at hb
        subst hb
        exact hvP hk)
      have hyp : ∀ y ∈ L, y.p < w.heap.size ∧ y.q < w.heap.size := fun y hy => ⟨(hA.sp y hy).1.ltp, (hA.sp y hy).1.ltq⟩
      have hobE : ∀ b, (Value.ownBlock (.slice A' (L.length + 1) c')) = some b → (Value.ownBlock (.slice ad L.length cp) = some b) ∨ w3.heap.size < b := fun b hb => by
        rcases HOB.out with h | h
        · rw [h] at hb; exact .inl hb
        · rw [h] at hb; injection hb with hb; rw [World.size_alloc] at hb; exact .inr (by omega)
      have hz1 : p < w3.heap.size ∧ q < w3.heap.size := by
        have a1 := HSP.out.ltp
        have a2 := HSP.out.ltq
        have a3 := (ho.trans ho3).size
        omega
      have hnE : p ≠ P ∧ q ≠ P ∧ (Value.ownBlock (.slice A' (L.length + 1) c')) ≠ some p ∧ (Value.ownBlock (.slice A' (L.length + 1) c')) ≠ some q := ⟨by omega, by omega, fun e => (by
          rcases hobE p e with h | h
          · have := own_lt hA.row p h; omega
          · omega), fun e => (by
          rcases hobE q e with h | h
          · have := own_lt hA.row q h; omega
          · omega)⟩
      have hst := hA.insert (w' := w4.setCell ⟨P, 3, none⟩ (.slice A' (L.length + 1) c')) (A' := (.slice A' (L.length + 1) c')) (e := ⟨p, q, cap, Sp.fresh x c.size c.pages c.batch⟩) (k := pos) HPOS.out (bP4.set_ 3 (.slice A' (L.length + 1) c')) hrow5 hspL ⟨hspE5, rfl, rfl, rfl⟩
        (fun y hy => ⟨fun e => (by
          rcases hobE _ e with h | h
          · exact (hA.ne y hy).2.2.1 h
          · have := hyp y hy; omega), fun e => (by
          rcases hobE _ e with h | h
          · exact (hA.ne y hy).2.2.2 h
          · have := hyp y hy; omega)⟩)
        hnE
        hvP (fun y hy => by have := hyp y hy; show y.p ≠ p ∧ y.p ≠ q ∧ y.q ≠ p ∧ y.q ≠ q; omega)
        (fun j hj => by
          have a1 := HS1.out j hj
          have a2 := HCLS.out j (by have := HPOS.out; omega)
          rw [sAt_spans] at a1 a2
          show _ ≤ x
          omega)
        (fun j hj hjl => by
          have a1 := HS2.out j hj hjl
          have a2 := HCLS.out j hjl
          rw [sAt_spans] at a1 a2
          show x + _ ≤ _
          omega)
      have hoF : Only bl w (w4.setCell ⟨P, 3, none⟩ (.slice A' (L.length + 1) c')) := (hoT.mono (fun b hb => HI.out.a b (Option.mem_toList.1 hb))).setCell (.inl HI.out.p) _
      refine ⟨by rw [E1.out]; rfl, hoF, p :: q :: ((Value.ownBlock (.slice A' (L.length + 1) c')).toList ++ bl), ⟨⟨(.slice A' (L.length + 1) c'), _, hst, ?_, ?_⟩, ?_⟩, ?_⟩
      · rw [E2.out]
        simp [spans, List.map_take, List.map_drop]
      · refine ⟨by simp [HI.out.p], fun b hb => by simp [hb], fun y hy => ?_⟩
        simp only [List.mem_append, List.mem_singleton] at hy
        rcases hy with (hy | rfl) | hy
        · have := HI.out.e y (List.mem_of_mem_take hy); simp [this.1, this.2]
        · simp
        · have := HI.out.e y (List.mem_of_mem_drop hy); simp [this.1, this.2]
      · intro b hb
        simp only [List.mem_cons, List.mem_append, Option.mem_toList] at hb
        rcases hb with rfl | rfl | hb | hb
        · exact hspE5.ltp
        · exact hspE5.ltq
        · exact own_lt hrow5 b hb
        · exact Nat.lt_of_lt_of_le (HLT.out b hb) hoF.size
      · intro b hb
        simp only [List.mem_cons, List.mem_append, Option.mem_toList] at hb
        rcases hb with rfl | rfl | hb | hb
        · exact .inr hp
        · exact .inr hq
        · rcases hobE b hb with h | h
          · exact .inl (HI.out.a b h)
          · exact .inr (by omega)
        · exact .inl hb
end Go.Proofs.Ytlmjelcnldlagaa
/- Sweep's closure. -/
set_option linter.unusedVariables false
set_option linter.unusedSimpArgs false
namespace Go.Proofs.Ytlmjelcnldlagaa
open Go.RowKit

/-- The runs that were struck lie behind a cell of their own. -/
structure OutAt (w0 w : World) (l : List Nat) (o : Nat) (rs : List (Int × Int)) : Prop where
  only : Only l w0 w
  ge : w0.heap.size ≤ o
  lt : o < w.heap.size
  no : o ∉ l
  ex : ∃ v, Blk w o 30 #[v] ∧ w.ownsRow w0.heap.size 37 2 v rs.length (cellsR rs) ∧ v.ownBlock ≠ some o

set_option maxRecDepth 100000 in
set_option maxHeartbeats 4000000 in
theorem struck_any {w0 w : World} {l : List Nat} {o : Nat} {rs : List (Int × Int)} (h : OutAt w0 w l o rs) (hl : ∀ b ∈ l, b < w0.heap.size) {p q cap : Nat} {s : Sp} (hs : SpanAt w p q cap s) (hpo : p ≠ o) (hrs : rs.length ≤ 1024) :
    Calls Try.prog 44 #[.agg #[.int .i64 s.many, .int .i64 s.start, .pointer (some ⟨p, 0, none⟩)], .pointer (some ⟨o, 0, none⟩)] w fun e w' => e = .returned (.bool (s.many == 0)) ∧ OutAt w0 w' l o (if s.many = 0 then rs ++ [(s.start, s.pages)] else rs) ∧ ∀ v, Blk w o 30 #[v] → Only (o :: v.ownBlock.toList) w w' := by
  obtain ⟨ho, hge, hlt, hno, v, hB, hown, hvo⟩ := h
  have huniq : ∀ u, Blk w o 30 #[u] → u = v := fun u hu => by
    have := (hu.cell_ 0 rfl).symm.trans (hB.cell_ 0 rfl)
    injection this
  have hoA := ho.alloc (.cells #[.int .i64 s.many, .int .i64 s.start, .pointer (some ⟨p, 0, none⟩)] 75)
  have bE := Blk.new w 75 #[.int .i64 s.many, .int .i64 s.start, .pointer (some ⟨p, 0, none⟩)]
  have oA := (Only.refl [] w).alloc (.cells #[.int .i64 s.many, .int .i64 s.start, .pointer (some ⟨p, 0, none⟩)] 75)
  have hB1 := hB.only oA (by simp)
  have hown1 := own_only hown oA (by simp)
  have hs1 := hs.only oA (by simp) (by simp)
  by_cases h0 : s.many = 0
  · have d0 : (s.many == 0) = true := by simp [h0]
    have H0 := Lib.hid h0
    rw [if_pos h0]
    obtain ⟨i0, hi, hz0, hz1, hz2⟩ := info_parts info_run
    have hsz := hoA.size
    have hszA : (w.alloc (.cells #[.int .i64 s.many, .int .i64 s.start, .pointer (some ⟨p, 0, none⟩)] 75)).heap.size = w.heap.size + 1 := by simp
    clear h0
    go_enter Try.func44, Try.ntmps44
    go_wp2_with fail
    generalize (w.alloc (.cells #[.int .i64 s.many, .int .i64 s.start, .pointer (some ⟨p, 0, none⟩)] 75)) = w1 at *
    have CR := Lib.hid (Run_at hs1.drew)
    have c2 := bE.cell_ 2 rfl
    have y0 := hB1.cell_ 0 rfl
    have HB1 := Lib.hid hB1
    have HBE := Lib.hid bE
    have HOWN := Lib.hid hown1
    have HVO := Lib.hid hvo
    have HOLT := Lib.hid (own_lt hown)
    have hwo : ¬ (w.heap.size = o) := by omega
    have HOV := Lib.hid (own_base hown)
    clear hs hs1
    go_region_law (first
      | (go_simp; go_at_call 38; refine CR.out.mono ?_; rintro e w2 ⟨rfl, ho2⟩; have y2 := (HB1.out.drew.only ho2 (by simp)).cell_ 0 rfl; have e2 := (HBE.out.drew.only ho2 (by simp)).cell_ 2 rfl; have y2a := ((HB1.out.drew.only ho2 (by simp)).alloc (.cells #[.int .i64 s.start, .int .i64 s.pages] 37)).cell_ 0 rfl; have hown2 := own_only (own_drewN HOWN.out 1) ho2 (by simp); have hsz2 := ho2.size)
      | (refine step_append_lies _ rfl (.tmp 8) (.tmp 12) 30 rfl w0.heap.size 37 i0 (.agg #[.int .i64 0, .int .i64 0]) 2 16 Try.underlying30 hi hz0 hz1 hz2 rfl (by decide) _ _ _ rfl (hown2.alloc _) ⟨w2.heap.size, 0, none⟩ 1 1 [.int .i64 s.start, .int .i64 s.pages] rfl rfl (news_new w2 _ _) (by simp [Value.oneCell']) (by omega) (by unfold maxLen; omega) (by omega) (by simp; simp at hsz2; omega) _ rfl ?_; intro g1 k1 w3 hown3 hg3 hgl3 hgt3; have o3 : Only v.ownBlock.toList (w2.alloc (.cells #[.int .i64 s.start, .int .i64 s.pages] 37)) w3 := (Only.refl _ _).grown hg3 (fun b hb => .inl (Option.mem_toList.2 (show v.ownBlock = some b from hb))); have B3 := ((HB1.out.drew.only ho2 (by simp)).alloc (.cells #[.int .i64 s.start, .int .i64 s.pages] 37)).only o3 (fun h => HVO.out (Option.mem_toList.1 h)); have E3 := ((HBE.out.drew.only ho2 (by simp)).alloc (.cells #[.int .i64 s.start, .int .i64 s.pages] 37)).only o3 (fun h => Nat.lt_irrefl _ (HOLT.out _ (Option.mem_toList.1 h))); have e3 := E3.cell_ 0 rfl; have y3 := B3.cell_ 0 rfl; have f3 := B3.frozen 0))
    all_goals
      go_wp2
      go_ret
      have hgO : g1 ≠ o := by
        rcases hgl3 with h | h
        · intro e
          subst e
          exact HVO.out h
        · simp at h hsz2
          omega
      have hgN : Only l w0 w3 := (((hoA.drew.trans ho2.of_nil).alloc _).then_ o3 (fun b hb => .inr (HOV.out b (Option.mem_toList.1 hb))))
      have hsz3 := o3.size
      refine ⟨by rw [H0.out]; rfl, ⟨hgN.setCell (.inr hge) _, hge, by simp at hsz3 hsz2 ⊢; omega, hno, _, B3.set_ 0 _, ?_, fun e => hgO (by injection e)⟩, fun u hu => ?_⟩
      · rw [cellsR_append, List.length_append]
        simp only [List.length_singleton]
        exact own_only hown3 ((Only.refl [o] w3).setCell (.inl (by simp)) _) (fun b hb hbo => hgO (by
          simp at hbo
          subst hbo
          injection hb))
      · obtain rfl := huniq u hu
        exact (((oA.drew.trans ho2).alloc _).of_nil.trans (o3.mono (fun b hb => List.mem_cons_of_mem _ hb))).setCell (.inl (by simp)) _
  · have d0 : (s.many == 0) = false := by simp [h0]
    have H0 := Lib.hid h0
    rw [if_neg h0]
    clear h0 hs hs1
    generalize s.many = mn at *
    go_enter Try.func44, Try.ntmps44
    go_wp2_with fail
    go_ret
    exact ⟨by rw [d0]; rfl, ⟨hoA, hge, by simp; omega, hno, v, hB1, hown1, hvo⟩, fun u hu => oA.of_nil⟩
end Go.Proofs.Ytlmjelcnldlagaa
/- slices.IndexFunc and slices.DeleteFunc with Sweep's closure. -/
set_option linter.unusedVariables false
set_option linter.unusedSimpArgs false
namespace Go.Proofs.Ytlmjelcnldlagaa
open Go.RowKit

/-- The runs of the first k spans without a taken object, and the spans that have one. -/
def zeroTo (M : List Sp) : Nat → List (Int × Int)
  | 0 => []
  | k + 1 => if (sAt M k).many = 0 then zeroTo M k ++ [((sAt M k).start, (sAt M k).pages)] else zeroTo M k
def keptE (L : List En) : Nat → List En
  | 0 => []
  | k + 1 => if (eAt L k).s.many = 0 then keptE L k else keptE L k ++ [eAt L k]
theorem zeroTo_len (M : List Sp) (k : Nat) : (zeroTo M k).length ≤ k := by
  induction k with
  | zero => exact Nat.le_refl _
  | succ k ih =>
    rw [zeroTo]
    split
    · rw [List.length_append]; simp; omega
    · omega
theorem keptE_len (L : List En) (k : Nat) : (keptE L k).length ≤ k := by
  induction k with
  | zero => exact Nat.le_refl _
  | succ k ih =>
    rw [keptE]
    split
    · omega
    · rw [List.length_append]; simp; omega
theorem zeroTo_nil {M : List Sp} (k : Nat) (h : ∀ j, j < k → (sAt M j).many ≠ 0) : zeroTo M k = [] := by
  induction k with
  | zero => rfl
  | succ k ih => rw [zeroTo, if_neg (h k (by omega))]; exact ih (fun j hj => h j (by omega))
theorem keptE_all {L : List En} (k : Nat) (hk : k ≤ L.length) (h : ∀ j, j < k → (eAt L j).s.many ≠ 0) : keptE L k = L.take k := by
  induction k with
  | zero => rfl
  | succ k ih =>
    rw [keptE, if_neg (h k (by omega)), ih (by omega) (fun j hj => h j (by omega)), List.take_succ_eq_append_getElem (by omega)]
    rw [eAt, List.getD_eq_getElem?_getD, List.getElem?_eq_getElem (by omega)]
    rfl
theorem keptE_filter (L : List En) (k : Nat) (hk : k ≤ L.length) : keptE L k = (L.take k).filter (fun e => e.s.many != 0) := by
  induction k with
  | zero => rfl
  | succ k ih =>
    have e : L[k]'(by omega) = eAt L k := by rw [eAt, List.getD_eq_getElem?_getD, List.getElem?_eq_getElem (by omega)]; rfl
    rw [keptE, List.take_succ_eq_append_getElem (by omega), List.filter_append, ← ih (by omega), e]
    by_cases h : (eAt L k).s.many = 0
    · rw [if_pos h]; simp [h]
    · rw [if_neg h]; simp [h]

theorem OutAt.mono {w0 w : World} {l l' : List Nat} {o : Nat} {rs : List (Int × Int)} (h : OutAt w0 w l o rs) (hl : ∀ b ∈ l, b ∈ l') (ho : o ∉ l') : OutAt w0 w l' o rs := ⟨h.only.mono hl, h.ge, h.lt, ho, h.ex⟩
theorem OutAt.alloc {w0 w : World} {l : List Nat} {o : Nat} {rs : List (Int × Int)} (h : OutAt w0 w l o rs) (ob : Obj) : OutAt w0 (w.alloc ob) l o rs := by
  obtain ⟨v, h1, h2, h3⟩ := h.ex
  exact ⟨h.only.alloc ob, h.ge, by rw [World.size_alloc]; have := h.lt; omega, h.no, v, h1.alloc ob, own_only h2 ((Only.refl [] w).alloc ob) (by simp), h3⟩

set_option maxRecDepth 100000 in
set_option maxHeartbeats 4000000 in
theorem lindex_any {w0 w : World} {o P : Nat} {A : Value} {c : Cl} {L : List En} (h : ListAt w0 P A c L) (hO : OutAt w0 w [] o []) :
    Calls Try.prog 74 #[A, .func (.func 44) #[] #[.pointer (some ⟨o, 0, none⟩)]] w fun e w' =>
      (e = .returned (.int .i64 (-1)) ∧ (∀ j, j < L.length → (eAt L j).s.many ≠ 0) ∧ OutAt w0 w' [] o []) ∨
      (∃ k, k < L.length ∧ e = .returned (.int .i64 (k : Nat)) ∧ (eAt L k).s.many = 0 ∧ (∀ j, j < k → (eAt L j).s.many ≠ 0) ∧ OutAt w0 w' [] o (zeroTo (spans L) (k + 1))) := by
  obtain ⟨ad, cp, rfl⟩ := h.slice
  have HA := Lib.hid h
  have hn := h.len
  obtain ⟨N, hN⟩ : ∃ N, N = L.length := ⟨_, rfl⟩
  rw [← hN] at hn ⊢
  have HN := Lib.hid hN
  have HO := Lib.hid hO
  clear h hN hO
  go_enter Try.func74, Try.ntmps74
  go_wp2_with fail
  go_loopw [8] (fun t wr => ∃ k : Nat, k ≤ N ∧ t = .int .i64 k ∧ OutAt w0 wr [] o [] ∧ (∀ j, j < k → (eAt L j).s.many ≠ 0)) (fun t _ => N - (intOf t).toNat)
  case atStart => exact ⟨0, Nat.zero_le _, rfl, HO.out, fun j hj => absurd hj (by omega)⟩
  case round =>
    obtain ⟨k, hk, rfl, hO, hF⟩ := hrel
    have hr := HA.out.still hO.only
    by_cases hlt : k < N
    · have d1 : decide ((k : Int) < N) = true := decide_eq_true (by omega)
      obtain ⟨g, cp', e1⟩ := hr.form (by rw [← HN.out]; omega)
      injection e1 with e1 _ e3
      subst e1 e3
      obtain ⟨q0, q1, q2, qf⟩ := own_ents hr.row rfl (j := k) (by rw [← HN.out]; exact hlt)
      have hsp := (hr.get (show k < L.length by rw [← HN.out]; exact hlt)).1
      have hp0 := (HA.out.get (show k < L.length by rw [← HN.out]; exact hlt)).1.ltp
      have CS := Lib.hid (struck_any hO (by simp) hsp (by have := hO.ge; omega) (by simp))
      have HF := Lib.hid hF
      have HS := Lib.hid (sAt_spans L k)
      clear hr hF hsp hO
      by_cases h0 : (eAt L k).s.many = 0
      · have d2 : ((eAt L k).s.many == 0) = true := by simp [h0]
        have HZ : Hid (zeroTo (spans L) (k + 1) = [] ++ [((eAt L k).s.start, (eAt L k).s.pages)]) := by
          show _ = _
          rw [zeroTo, HS.out, if_pos h0, zeroTo_nil k (fun j hj => by rw [sAt_spans]; exact HF.out j hj)]
        have H0 := Lib.hid h0
        rw [if_pos h0, d2] at CS
        clear h0 d2
        go_wp2_with (go_at_call 44; refine CS.out.mono ?_; rintro e w2 ⟨rfl, hO2, _⟩)
        go_ret
        exact .inr ⟨k, hlt, rfl, H0.out, HF.out, by rw [HZ.out]; exact hO2⟩
      · have d2 : ((eAt L k).s.many == 0) = false := by simp [h0]
        have H0 := Lib.hid h0
        rw [if_neg h0, d2] at CS
        clear h0 d2
        go_wp2_with (go_at_call 44; refine CS.out.mono ?_; rintro e w2 ⟨rfl, hO2, _⟩)
        go_roundw
        case rel => exact ⟨k + 1, by omega, by go_num, hO2, fun j hj => (by
          rcases Nat.lt_or_ge j k with h1 | h1
          · exact HF.out j h1
          · rw [show j = k by omega]; exact H0.out)⟩
        case measure => simp [intOf]; omega
    · have e : k = N := by omega
      subst e
      have d1 : decide ((k : Int) < k) = false := decide_eq_false (by omega)
      have HF := Lib.hid hF
      clear hr hF
      go_wp2_with fail
      go_ret
      exact .inl ⟨rfl, HF.out, hO⟩
end Go.Proofs.Ytlmjelcnldlagaa
/- slices.DeleteFunc with Sweep's closure. -/
set_option linter.unusedVariables false
set_option linter.unusedSimpArgs false
namespace Go.Proofs.Ytlmjelcnldlagaa
open Go.RowKit

theorem run_clear3 (W : World) (g o n dc : Nat) (cur : Array Value) (t : TypeId) (hn : 0 < n) (hg : W.heap[g]? = some (.cells cur t (0, 0))) (hfit : o + n * 3 ≤ cur.size) :
    ∃ X : Array Value, (∀ ty, (Builtin.clear_ #[66] ty #[.slice (some ⟨g, o, none⟩) n dc]).run Try.prog W = .ok (.tuple #[]) (W.setRow g X)) ∧ X.size = cur.size ∧ ∀ j, j < o → X.toList[j]? = cur.toList[j]? := by
  obtain ⟨i, hi, hz, hs, hb⟩ := info_parts info_ent
  have hzl : ((Builtin.zeroCells (Value.agg #[.int .i64 0, .int .i64 0, .pointer none]).cells n).toList).length = n * 3 := by simp [Builtin.zeroCells, Value.cells]
  have h1 : ∀ v ∈ (Builtin.zeroCells (Value.agg #[.int .i64 0, .int .i64 0, .pointer none]).cells n).toList, v.oneCell' = true := by
    intro v hv
    simp [Builtin.zeroCells, Value.cells] at hv
    obtain ⟨a, ha, rfl⟩ := hv
    rcases (by omega : a % 3 = 0 ∨ a % 3 = 1 ∨ a % 3 = 2) with h | h | h <;> simp [h, Value.oneCell']
  have hst := run_storeCells_at Try.prog g o t (Builtin.zeroCells (Value.agg #[.int .i64 0, .int .i64 0, .pointer none]).cells n).toList 0 cur W hg (by rw [hzl]; omega) h1
  simp only [Nat.add_zero] at hst
  obtain ⟨m, rfl⟩ : ∃ m, n = m + 1 := ⟨n - 1, by omega⟩
  refine ⟨(cur.toList.take o ++ (Builtin.zeroCells (Value.agg #[.int .i64 0, .int .i64 0, .pointer none]).cells (m + 1)).toList ++ cur.toList.drop (o + ((Builtin.zeroCells (Value.agg #[.int .i64 0, .int .i64 0, .pointer none]).cells (m + 1)).toList).length)).toArray, fun ty => by simp [Builtin.clear_, run_underlying Try.underlying66, zeroValue, typeInfo, hi, hz, hst], ?_, fun j hj => ?_⟩
  · simp [hzl]; omega
  · simp only [List.toList_toArray]
    rw [splice_at _ _ _ (by rw [hzl, Array.length_toList]; omega), if_neg (by omega)]

/-- Three cells in a row are written. -/
theorem set3_at (cur : Array Value) (i : Nat) (x y z : Value) (h : i * 3 + 3 ≤ cur.size) (t : Nat) : (((cur.setIfInBounds (i * 3) x).setIfInBounds (i * 3 + 1) y).setIfInBounds (i * 3 + 2) z).toList[t]? = if i * 3 ≤ t ∧ t < i * 3 + 3 then [x, y, z][t - i * 3]? else cur.toList[t]? := by
  simp only [Array.toList_setIfInBounds, List.getElem?_set, List.length_set, Array.length_toList]
  by_cases h1 : i * 3 ≤ t ∧ t < i * 3 + 3
  · rw [if_pos h1]
    rcases (by omega : t = i * 3 ∨ t = i * 3 + 1 ∨ t = i * 3 + 2) with h2 | h2 | h2
    · subst h2
      rw [if_neg (by omega), if_neg (by omega), if_pos rfl, if_pos (by omega)]
      simp
    · subst h2
      rw [if_neg (by omega), if_pos rfl, if_pos (by omega)]
      simp
    · subst h2
      rw [if_pos rfl, if_pos (by omega)]
      simp
  · rw [if_neg h1, if_neg (by omega), if_neg (by omega), if_neg (by omega)]

/-- What the rounds leave in the row. -/
structure KeepInv (w : World) (g cp : Nat) (L : List En) (j : Nat) (cur : Array Value) : Prop where
  blk : Blk w g 75 cur
  size : cur.size = cp * 3
  low : ∀ t, t < (keptE L j).length * 3 → cur.toList[t]? = (entCells (keptE L j))[t]?
  high : ∀ t, j * 3 ≤ t → t < L.length * 3 → cur.toList[t]? = (entCells L)[t]?
theorem KeepInv.skip {w w' : World} {g cp : Nat} {L : List En} {j : Nat} {cur : Array Value} (h : KeepInv w g cp L j cur) (hb : Blk w' g 75 cur) (h0 : (eAt L j).s.many = 0) : KeepInv w' g cp L (j + 1) cur := by
  have e : keptE L (j + 1) = keptE L j := by rw [keptE, if_pos h0]
  exact ⟨hb, h.size, by rw [e]; exact h.low, fun t h1 h2 => h.high t (by omega) h2⟩
theorem KeepInv.keep {w w' : World} {g cp : Nat} {L : List En} {j : Nat} {cur : Array Value} (h : KeepInv w g cp L j cur) (hj : j < L.length) (hcp : L.length ≤ cp) (hb : Blk w' g 75 (((cur.setIfInBounds ((keptE L j).length * 3) (.int .i64 (eAt L j).s.many)).setIfInBounds ((keptE L j).length * 3 + 1) (.int .i64 (eAt L j).s.start)).setIfInBounds ((keptE L j).length * 3 + 2) (.pointer (some ⟨(eAt L j).p, 0, none⟩)))) (h0 : (eAt L j).s.many ≠ 0) :
    KeepInv w' g cp L (j + 1) (((cur.setIfInBounds ((keptE L j).length * 3) (.int .i64 (eAt L j).s.many)).setIfInBounds ((keptE L j).length * 3 + 1) (.int .i64 (eAt L j).s.start)).setIfInBounds ((keptE L j).length * 3 + 2) (.pointer (some ⟨(eAt L j).p, 0, none⟩))) := by
  have e : keptE L (j + 1) = keptE L j ++ [eAt L j] := by rw [keptE, if_neg h0]
  have hl := keptE_len L j
  have hs := h.size
  refine ⟨hb, by simpa using hs, fun t ht => ?_, fun t h1 h2 => ?_⟩
  · rw [e, List.length_append] at ht
    simp at ht
    rw [set3_at _ _ _ _ _ (by omega), e, entCells_append]
    by_cases h1 : (keptE L j).length * 3 ≤ t
    · rw [if_pos (by omega), List.getElem?_append_right (by rw [entCells_len]; exact h1), entCells_len]
      rfl
    · rw [if_neg (by omega), List.getElem?_append_left (by rw [entCells_len]; omega)]
      exact h.low t (by omega)
  · rw [set3_at _ _ _ _ _ (by omega), if_neg (by omega)]
    exact h.high t (by omega) h2
/-- The cells of entry j, not yet reached. -/
theorem KeepInv.cells {w : World} {g cp : Nat} {L : List En} {j : Nat} {cur : Array Value} (h : KeepInv w g cp L j cur) (hj : j < L.length) : w.cell? ⟨g, j * 3, none⟩ = some (.int .i64 (eAt L j).s.many) ∧ w.cell? ⟨g, j * 3 + 1, none⟩ = some (.int .i64 (eAt L j).s.start) ∧ w.cell? ⟨g, j * 3 + 2, none⟩ = some (.pointer (some ⟨(eAt L j).p, 0, none⟩)) := by
  obtain ⟨a1, a2, a3⟩ := entCells_at L j hj
  rw [← h.high _ (by omega) (by omega), Array.getElem?_toList] at a1 a2 a3
  exact ⟨h.blk.cell_ _ a1, h.blk.cell_ _ a2, h.blk.cell_ _ a3⟩

theorem OutAt.write {w0 w w' : World} {l : List Nat} {o : Nat} {rs : List (Int × Int)} (h : OutAt w0 w l o rs) (ho : Only l w w') (hl : ∀ b ∈ l, b < w0.heap.size) : OutAt w0 w' l o rs := by
  obtain ⟨v, h1, h2, h3⟩ := h.ex
  exact ⟨h.only.trans ho, h.ge, Nat.lt_of_lt_of_le h.lt ho.size, h.no, v, h1.only ho h.no, own_only h2 ho (fun b hb hbl => by
    have := own_base h2 b hb
    have := hl b hbl
    omega), h3⟩

set_option maxRecDepth 100000 in
set_option maxHeartbeats 8000000 in
theorem ldelete_any {w0 w : World} {o P : Nat} {A : Value} {c : Cl} {L : List En} (h : ListAt w0 P A c L) (hO : OutAt w0 w [] o []) :
    Calls Try.prog 43 #[A, .func (.func 44) #[] #[.pointer (some ⟨o, 0, none⟩)]] w fun e w' =>
      ∃ A', e = .returned A' ∧ A'.ownBlock = A.ownBlock ∧ w'.ownsRow 0 75 3 A' (keptE L L.length).length (entCells (keptE L L.length)) ∧ OutAt w0 w' A.ownBlock.toList o (zeroTo (spans L) L.length) := by
  have CI := Lib.hid (lindex_any h hO)
  obtain ⟨ad, cp, rfl⟩ := h.slice
  have HA := Lib.hid h
  have hn := h.len
  have hoN : o ∉ (Value.ownBlock (.slice ad L.length cp)).toList := fun hb => by
    have := own_lt h.row o (Option.mem_toList.1 hb)
    have := hO.ge
    omega
  have HON := Lib.hid hoN
  obtain ⟨N, hN⟩ : ∃ N, N = L.length := ⟨_, rfl⟩
  rw [← hN] at hn CI
  have HN := Lib.hid hN
  clear h hO hoN hN
  go_enter Try.func43, Try.ntmps43
  rw [← HN.out]
  go_wp2_with fail
  refine CI.out.mono ?_
  rintro e w1 (⟨rfl, hall, hO1⟩ | ⟨k, hk, rfl, h0, hall, hO1⟩)
  · have HALL := Lib.hid hall
    clear hall
    go_wp2_with fail
    go_ret
    have e1 : keptE L L.length = L := by rw [keptE_all _ (Nat.le_refl _) (fun j hj => HALL.out j (by rw [HN.out]; exact hj)), List.take_of_length_le (Nat.le_refl _)]
    have e2 : zeroTo (spans L) L.length = [] := zeroTo_nil _ (fun j hj => by rw [sAt_spans]; exact HALL.out j (by rw [HN.out]; exact hj))
    refine ⟨_, rfl, rfl, ?_, ?_⟩
    · rw [HN.out, e1]
      exact (HA.out.still hO1.only).row
    · rw [HN.out, e2]
      exact hO1.mono (by simp) HON.out
  · obtain ⟨g, cp', e1⟩ := HA.out.form (by rw [← HN.out]; omega)
    injection e1 with e1 _ e3
    subst e1 e3
    have hge := hO1.ge
    have hgl : g < w0.heap.size := own_lt HA.out.row g rfl
    have hkept : keptE L (k + 1) = L.take k := by rw [keptE, if_pos h0]; exact keptE_all k (by rw [← HN.out]; omega) hall
    obtain ⟨cur0, hK0, hcp1, hcp2⟩ : ∃ cur, KeepInv w1 g cp L (k + 1) cur ∧ N ≤ cp ∧ cp ≤ maxLen := by
      rcases (HA.out.still hO1.only).row.2 with ⟨h2, _⟩ | ⟨g', cap, cur, hv, hb, hg, h3, h4, h5, h6⟩
      · cases h2
      · injection hv with e1 _ e3
        injection e1 with e1
        injection e1 with e1 _ _
        subst e1 e3
        refine ⟨cur, ⟨hg, h5, fun t ht => ?_, fun t h1 h2 => ?_⟩, by rw [HN.out]; exact h3, h4⟩
        · rw [hkept, List.length_take] at ht
          have hkl : k ≤ L.length := by rw [← HN.out]; omega
          rw [hkept, (entCells_take L k hkl).1, ← h6, List.getElem?_take, List.getElem?_take, if_pos (by omega), if_pos (by omega)]
        · rw [← h6, List.getElem?_take, if_pos h2]
    have hlk : (keptE L (k + 1)).length = k := by rw [hkept, List.length_take]; rw [← HN.out]; omega
    have HK0 := Lib.hid hK0
    have HLK := Lib.hid hlk
    have HZR := Lib.hid (hO1.mono (l' := [g]) (by simp) (by simp; omega))
    clear hK0 hlk hkept hall h0 hO1
    have dk : ((k : Int) == -1) = false := beq_eq_false_iff_ne.2 (by omega)
    go_wp2_with fail
    go_loopw [5, 6] (fun a b wr => ∃ j : Nat, k + 1 ≤ j ∧ j ≤ N ∧ a = .int .i64 ((keptE L j).length : Nat) ∧ b = .int .i64 j ∧ (keptE L j).length < j ∧ OutAt w0 wr [g] o (zeroTo (spans L) j) ∧ ∃ cur, KeepInv wr g cp L j cur) (fun _ b _ => N - (intOf b).toNat)
    case atStart => exact ⟨k + 1, Nat.le_refl _, by omega, by rw [HLK.out], by go_num, by rw [HLK.out]; omega, HZR.out, cur0, HK0.out⟩
    case round =>
      obtain ⟨j, hj1, hj2, rfl, rfl, hlj, hO, cur, hK⟩ := hrel
      have HK := Lib.hid hK
      have HOO := Lib.hid hO
      by_cases hlt : j < N
      · have d1 : decide ((j : Int) < N) = true := decide_eq_true (by omega)
        obtain ⟨q0, q1, q2⟩ := hK.cells (by rw [← HN.out]; exact hlt)
        have hjL : j < L.length := by rw [← HN.out]; exact hlt
        have hn0 := HA.out.ne _ (eAt_mem hjL)
        have hsp0 := (HA.out.get hjL).1
        have hp0 := hsp0.ltp
        have hspA := (hsp0.only hO.only (by simp; exact fun e => hn0.2.2.1 (by rw [e]; rfl)) (by simp; exact fun e => hn0.2.2.2 (by rw [e]; rfl))).alloc (.cells #[.int .i64 (eAt L j).s.many, .int .i64 (eAt L j).s.start, .pointer (some ⟨(eAt L j).p, 0, none⟩)] 75)
        have CS := Lib.hid (struck_any (hO.alloc (.cells #[.int .i64 (eAt L j).s.many, .int .i64 (eAt L j).s.start, .pointer (some ⟨(eAt L j).p, 0, none⟩)] 75)) (by simp; exact hgl) hspA (by have := hO.ge; omega) (by have := zeroTo_len (spans L) j; omega))
        have HS := Lib.hid (sAt_spans L j)
        have hvb := Blk.new wr 75 #[.int .i64 (eAt L j).s.many, .int .i64 (eAt L j).s.start, .pointer (some ⟨(eAt L j).p, 0, none⟩)]
        have hgw : g < wr.heap.size := hK.blk.lt
        have HVB := Lib.hid hvb
        have HJL := Lib.hid hjL
        have hOB : Only [] wr (wr.alloc (.cells #[.int .i64 (eAt L j).s.many, .int .i64 (eAt L j).s.start, .pointer (some ⟨(eAt L j).p, 0, none⟩)] 75)) := (Only.refl _ _).alloc _
        obtain ⟨v, hvB, hvO, _⟩ := hO.ex
        have hno : wr.heap.size ≠ o := by have := hO.lt; omega
        have HFR := Lib.hid (fun w2 (H : ∀ v, Blk (wr.alloc (.cells #[.int .i64 (eAt L j).s.many, .int .i64 (eAt L j).s.start, .pointer (some ⟨(eAt L j).p, 0, none⟩)] 75)) o 30 #[v] → Only (o :: v.ownBlock.toList) (wr.alloc (.cells #[.int .i64 (eAt L j).s.many, .int .i64 (eAt L j).s.start, .pointer (some ⟨(eAt L j).p, 0, none⟩)] 75)) w2) => And.intro (H v (hvB.alloc _)) (And.intro (show g ∉ o :: v.ownBlock.toList by
          simp only [List.mem_cons, Option.mem_toList, not_or]
          exact ⟨by have := hO.ge; omega, fun h => by have := own_base hvO g h; omega⟩) (show wr.heap.size ∉ o :: v.ownBlock.toList by
          simp only [List.mem_cons, Option.mem_toList, not_or]
          exact ⟨hno, fun h => by have := own_lt hvO _ h; omega⟩)))
        have hcs := hK.size
        have hKA := hK.blk.alloc (.cells #[.int .i64 (eAt L j).s.many, .int .i64 (eAt L j).s.start, .pointer (some ⟨(eAt L j).p, 0, none⟩)] 75)
        have HKA := Lib.hid hKA
        clear hK hO hsp0 hspA hvb hn0 hvB hvO hno hKA
        generalize hi : (keptE L j).length = i at *
        have HI := Lib.hid hi
        clear hi
        by_cases h0 : (eAt L j).s.many = 0
        · have d2 : ((eAt L j).s.many == 0) = true := by simp [h0]
          have H0 := Lib.hid h0
          have HZ : Hid (zeroTo (spans L) (j + 1) = zeroTo (spans L) j ++ [((eAt L j).s.start, (eAt L j).s.pages)]) := by show _ = _; rw [zeroTo, HS.out, if_pos h0]
          have HKE : Hid (keptE L (j + 1) = keptE L j) := by show _ = _; rw [keptE, if_pos h0]
          rw [if_pos h0, d2] at CS
          clear h0 d2
          go_wp2_with (go_at_call 44; refine CS.out.mono ?_; rintro e w2 ⟨rfl, hO2, hFr⟩)
          obtain ⟨f1, f2, f3⟩ := HFR.out w2 hFr
          go_roundw
          case rel => exact ⟨j + 1, by omega, by omega, by rw [HKE.out, HI.out], by go_num, by rw [HKE.out, HI.out]; omega, by rw [HZ.out]; exact hO2, cur, HK.out.skip (HKA.out.only f1 f2) H0.out⟩
          case measure => simp [intOf]; omega
        · have d2 : ((eAt L j).s.many == 0) = false := by simp [h0]
          have H0 := Lib.hid h0
          have HZ : Hid (zeroTo (spans L) (j + 1) = zeroTo (spans L) j) := by show _ = _; rw [zeroTo, HS.out, if_neg h0]
          have HKE : Hid (keptE L (j + 1) = keptE L j ++ [eAt L j]) := by show _ = _; rw [keptE, if_neg h0]
          rw [if_neg h0, d2] at CS
          clear h0 d2
          go_wp2_with (go_at_call 44; refine CS.out.mono ?_; rintro e w2 ⟨rfl, hO2, hFr⟩; obtain ⟨f1, f2, f3⟩ := HFR.out w2 hFr; have B2 := HKA.out.only f1 f2; have V2 := HVB.out.only f1 f3; have v0 := V2.cell_ 0 rfl; have v1 := V2.cell_ 1 rfl; have v2 := V2.cell_ 2 rfl; have u0 := B2.cell_ (i * 3) (Array.getElem?_eq_getElem (by omega)); have u1 := B2.cell_ (i * 3 + 1) (Array.getElem?_eq_getElem (by omega)); have u2 := B2.cell_ (i * 3 + 2) (Array.getElem?_eq_getElem (by omega)); have g0 := B2.frozen (i * 3); have g1 := B2.frozen (i * 3 + 1); have g2 := B2.frozen (i * 3 + 2); have HB2 := Lib.hid B2; have HO2 := Lib.hid hO2; clear V2 B2 hFr f1 f2 f3 hO2)
          go_roundw
          case rel =>
            have oS : Only [g] w2 (((w2.setCell ⟨g, i * 3, none⟩ (.int .i64 (eAt L j).s.many)).setCell ⟨g, i * 3 + 1, none⟩ (.int .i64 (eAt L j).s.start)).setCell ⟨g, i * 3 + 2, none⟩ (.pointer (some ⟨(eAt L j).p, 0, none⟩))) := (((Only.refl [g] w2).setCell (.inl (by simp)) _).setCell (.inl (by simp)) _).setCell (.inl (by simp)) _
            have hBN := ((HB2.out.set_ (i * 3) (.int .i64 (eAt L j).s.many)).set_ (i * 3 + 1) (.int .i64 (eAt L j).s.start)).set_ (i * 3 + 2) (.pointer (some ⟨(eAt L j).p, 0, none⟩))
            refine ⟨j + 1, by omega, by omega, by rw [HKE.out, List.length_append, HI.out]; simp, by go_num, by rw [HKE.out, List.length_append, HI.out]; simp; omega, by rw [HZ.out]; exact HO2.out.write oS (by simp; exact hgl), _, HK.out.keep HJL.out (by rw [← HN.out]; exact hcp1) (by rw [HI.out]; exact hBN) H0.out⟩
          case measure => simp [intOf]; omega
      · have e : j = N := by omega
        subst e
        have d1 : decide ((j : Int) < j) = false := decide_eq_false (by omega)
        have hcs := hK.size
        obtain ⟨X, hX, hXs, hXl⟩ := run_clear3 wr g ((keptE L j).length * 3) (j - (keptE L j).length) (cp - (keptE L j).length) cur _ (by omega) hK.blk (by omega)
        generalize hi : (keptE L j).length = i at *
        have HI := Lib.hid hi
        have HXL := Lib.hid hXl
        have hci : ¬ (cp = i) := by omega
        have hb1 : (i : Int) ≤ (j : Int) := by omega
        have hb2 : i ≤ j := by omega
        clear hi hO hXl hK
        go_wp2_with fail
        go_ret
        refine ⟨_, rfl, rfl, ⟨?_, .inr ⟨g, cp, X, by rw [HI.out]; rfl, Nat.zero_le _, setRow_heap wr g cur X _ _ HK.out.blk, by rw [HI.out]; omega, hcp2, by omega, ?_⟩⟩, ?_⟩
        · rw [entCells_len]
        · rw [HI.out]
          apply List.ext_getElem?
          intro t
          rw [List.getElem?_take]
          by_cases ht : t < i * 3
          · rw [if_pos ht, HXL.out t ht]
            exact HK.out.low t (by rw [HI.out]; exact ht)
          · rw [if_neg ht, List.getElem?_eq_none]
            rw [entCells_len, HI.out]
            omega
        · exact HOO.out.write (only_setRow (Only.refl [g] wr) (.inl (by simp))) (by simp; exact hgl)
end Go.Proofs.Ytlmjelcnldlagaa
/- Sweep of the list. -/
set_option linter.unusedVariables false
set_option linter.unusedSimpArgs false
namespace Go.Proofs.Ytlmjelcnldlagaa
open Go.RowKit

abbrev keptOf (M : List Sp) : List Sp := M.filter (fun s => s.many != 0)
abbrev zeroOf (M : List Sp) : List (Int × Int) := zeroTo M M.length

theorem spans_filter (L : List En) : spans (L.filter (fun e => e.s.many != 0)) = keptOf (spans L) := by
  induction L with
  | nil => rfl
  | cons x l ih =>
    simp only [spans, keptOf, List.map_cons, List.filter_cons] at ih ⊢
    split
    · rw [List.map_cons, ih]
    · exact ih

set_option maxRecDepth 100000 in
set_option maxHeartbeats 4000000 in
theorem lSweep_at {w : World} {P : Nat} {bl : List Nat} {c : Cl} {M : List Sp} (h : ListSt w P bl c M) :
    Calls Try.prog 18 #[.pointer (some ⟨P, 0, none⟩)] w fun e w' => ∃ v, e = .returned v ∧ w'.ownsRow w.heap.size 37 2 v (zeroOf M).length (cellsR (zeroOf M)) ∧ Only bl w w' ∧ ListSt w' P bl c (keptOf M) := by
  have CM := Lib.hid (lmade_st h)
  obtain ⟨⟨A, L, hA, rfl, hI⟩, hlt0⟩ := h
  have HA := Lib.hid hA
  have HI := Lib.hid hI
  have HLT := Lib.hid hlt0
  have hO : OutAt w (w.alloc (.cells #[.slice none 0 0] 30)) [] w.heap.size [] := ⟨(Only.refl [] w).alloc _, Nat.le_refl _, by simp, by simp, _, Blk.new w _ _, World.ownsRow_nil _ _ _ _, by simp [Value.ownBlock]⟩
  have hPlt := hA.blk.lt
  have y3 := (hA.still ((Only.refl [] w).alloc (.cells #[.slice none 0 0] 30))).blk.cell_ 3 rfl
  have CD := Lib.hid (ldelete_any hA hO)
  have HOL := Lib.hid (own_lt hA.row)
  clear hA hI hlt0 hO
  go_enter Try.func18, Try.ntmps18
  go_wp2_with (first | (go_at_call 37; with_reducible refine Still.use CM.out ?_))
  refine CD.out.mono ?_
  rintro e w2 ⟨A', rfl, hown, hrow, hO2⟩
  obtain ⟨B, n', rfl, _⟩ := own_slice hrow
  have nP : P ∉ A.ownBlock.toList := fun h => HA.out.nA (Option.mem_toList.1 h)
  have bP := HA.out.blk.only hO2.only nP
  have z3 := bP.cell_ 3 rfl
  have zf := bP.frozen 3
  obtain ⟨v, hvB, hvO, _⟩ := hO2.ex
  have hoP : ¬ (w.heap.size = P) := by omega
  have hoP' : ¬ (P = w.heap.size) := by omega
  have x0 := hvB.cell_ 0 rfl
  have HBP := Lib.hid bP
  have HVO := Lib.hid hvO
  have HONLY := Lib.hid hO2.only
  have HROW := Lib.hid hrow
  have HOWN := Lib.hid hown
  have HNP := Lib.hid nP
  clear hO2 hvO hvB bP hrow hown nP y3
  go_wp2_with fail
  go_ret
  have oS : Only [P] w2 (w2.setCell ⟨P, 3, none⟩ (.slice B (keptE L L.length).length n')) := (Only.refl [P] w2).setCell (.inl (by simp)) _
  have hA := HA.out
  have hkf : keptE L L.length = L.filter (fun e => e.s.many != 0) := by rw [keptE_filter _ _ (Nat.le_refl _), List.take_of_length_le (Nat.le_refl _)]
  have hsub : ∀ e ∈ keptE L L.length, e ∈ L := fun e he => by rw [hkf] at he; exact (List.mem_filter.1 he).1
  have hnA' : (Value.ownBlock (.slice B (keptE L L.length).length n')) ≠ some P := by rw [HOWN.out]; exact hA.nA
  have hst : ListAt (w2.setCell ⟨P, 3, none⟩ (.slice B (keptE L L.length).length n')) P (.slice B (keptE L L.length).length n') c (keptE L L.length) := by
    refine ⟨HBP.out.set_ 3 _, hA.one, own_only HROW.out oS (fun k hk hb => by
      simp at hb
      subst hb
      exact hnA' hk), fun e he => ?_, fun e he => ?_, hnA', ?_⟩
    · have hn := hA.ne e (hsub e he)
      obtain ⟨h1, h2⟩ := hA.sp e (hsub e he)
      exact ⟨(h1.only HONLY.out (fun h => hn.2.2.1 (Option.mem_toList.1 h)) (fun h => hn.2.2.2 (Option.mem_toList.1 h))).only oS (by simpa using hn.1) (by simpa using hn.2.1), h2⟩
    · have hn := hA.ne e (hsub e he)
      rw [HOWN.out]
      exact hn
    · rw [hkf]
      exact hA.ap.filter _
  have hoF : Only bl w (w2.setCell ⟨P, 3, none⟩ (.slice B (keptE L L.length).length n')) := (HONLY.out.mono (fun b hb => HI.out.a b (Option.mem_toList.1 hb))).setCell (.inl HI.out.p) _
  refine ⟨v, rfl, ?_, hoF, ⟨⟨_, _, hst, by rw [hkf, spans_filter], ⟨HI.out.p, fun k hk => HI.out.a k (by rw [← HOWN.out]; exact hk), fun e he => HI.out.e e (hsub e he)⟩⟩, fun b hb => Nat.lt_of_lt_of_le (HLT.out b hb) hoF.size⟩⟩
  show World.ownsRow _ _ _ _ _ (zeroTo (spans L) (spans L).length).length (cellsR (zeroTo (spans L) (spans L).length))
  rw [spans_len]
  exact own_only HVO.out oS (fun k hk hb => by
    simp at hb
    subst hb
    have := own_base HVO.out k hk
    omega)
end Go.Proofs.Ytlmjelcnldlagaa
/- Put of the list: plain. -/
set_option linter.unusedVariables false
set_option linter.unusedSimpArgs false
namespace Go.Proofs.Ytlmjelcnldlagaa
open Go.RowKit

/-- One object is made free. -/
def freeOne (M : List Sp) (a : Int) : List Sp := match ofI M a with
  | none => M
  | some j => M.set j ((sAt M j).free a).2
abbrev iAt (l : List Int) (k : Nat) : Int := l.getD k 0
def freeTo (M : List Sp) (o : List Int) : Nat → List Sp
  | 0 => M
  | k + 1 => freeOne (freeTo M o k) (iAt o k)
/-- One of the first k objects is of no span. -/
def badTo (M : List Sp) (o : List Int) : Nat → Bool
  | 0 => false
  | k + 1 => badTo M o k || (isTk M (iAt o k)).2 != 0
/-- One of the first k objects is not taken, or stands there before. -/
def twiceTo (M : List Sp) (o : List Int) : Nat → Bool
  | 0 => false
  | k + 1 => (twiceTo M o k || !(isTk M (iAt o k)).1) || decide (0 ≤ idxOf (o.take k) (iAt o k))
def putE (M : List Sp) (o : List Int) : Int := if badTo M o o.length then 8 else if twiceTo M o o.length then 9 else 0
def putM (M : List Sp) (o : List Int) : List Sp := if putE M o = 0 then keptOf (freeTo M o o.length) else M
def putR (M : List Sp) (o : List Int) : List (Int × Int) := if putE M o = 0 then zeroOf (freeTo M o o.length) else []

/-- What says where a span lies, and how its objects. -/
def Sp.like (s t : Sp) : Prop := s.start = t.start ∧ s.size = t.size ∧ s.pages = t.pages ∧ s.batch = t.batch ∧ s.st.length = t.st.length
theorem Sp.like.idx {s t : Sp} (h : s.like t) (a : Int) : s.idx a = t.idx a := by
  obtain ⟨h1, h2, _, _, h5⟩ := h
  unfold Sp.idx
  rw [h1, h2, h5]
theorem Sp.like.obj {s t : Sp} (h : s.like t) (a : Int) : s.obj a = t.obj a := by
  unfold Sp.obj Sp.at_
  rw [h.idx, h.1, h.2.1]
theorem Sp.like.refl (s : Sp) : s.like s := ⟨rfl, rfl, rfl, rfl, rfl⟩
theorem Sp.like.trans {s t u : Sp} (h : s.like t) (k : t.like u) : s.like u := ⟨h.1.trans k.1, h.2.1.trans k.2.1, h.2.2.1.trans k.2.2.1, h.2.2.2.1.trans k.2.2.2.1, h.2.2.2.2.trans k.2.2.2.2⟩
theorem Sp.free_like (s : Sp) (a : Int) : (s.free a).2.like s := by
  unfold Sp.free
  split
  · exact Sp.like.refl _
  · split
    · exact Sp.like.refl _
    · exact ⟨rfl, rfl, rfl, rfl, by simp [Sp.put]⟩
theorem Sp.take_like (s : Sp) : s.take.2.like s := by
  unfold Sp.take
  split
  · exact Sp.like.refl _
  · exact ⟨rfl, rfl, rfl, rfl, by simp [Sp.put]⟩
/-- Two lists of the same spans, but for what is taken. -/
def Like (M N : List Sp) : Prop := M.length = N.length ∧ ∀ j, j < M.length → (sAt M j).like (sAt N j)
theorem Like.refl (M : List Sp) : Like M M := ⟨rfl, fun _ _ => Sp.like.refl _⟩
theorem Like.trans {M N K : List Sp} (h : Like M N) (k : Like N K) : Like M K := ⟨h.1.trans k.1, fun j hj => (h.2 j hj).trans (k.2 j (by rw [← h.1]; exact hj))⟩
theorem Like.set {M N : List Sp} (h : Like M N) {j : Nat} {s : Sp} (hs : s.like (sAt M j)) : Like (M.set j s) N := by
  refine ⟨by rw [List.length_set]; exact h.1, fun i hi => ?_⟩
  rw [List.length_set] at hi
  by_cases hj : j < M.length
  · rw [sAt_set s hj]
    split
    · rename_i e; subst e; exact hs.trans (h.2 j hj)
    · exact h.2 i hi
  · rw [List.set_eq_of_length_le (by omega)]
    exact h.2 i hi
theorem Like.ofI {M N : List Sp} (h : Like M N) (a : Int) : ofI M a = ofI N a := by
  rcases ofI_cases N a with ⟨h1, h2⟩ | ⟨k, h1, h2, h3, h4⟩
  · rw [h1]
    exact ofI_none (fun j hj => by rw [(h.2 j hj).idx]; exact h2 j (by rw [← h.1]; exact hj))
  · rw [h1]
    have hk : k < M.length := by rw [h.1]; exact h2
    exact ofI_some hk (by rw [(h.2 k hk).idx]; exact h3) (fun j hj => by rw [(h.2 j (by omega)).idx]; exact h4 j hj)
theorem freeOne_like (M : List Sp) (a : Int) : Like (freeOne M a) M := by
  unfold freeOne
  split
  · exact Like.refl _
  · exact (Like.refl M).set (Sp.free_like _ _)
theorem freeTo_like (M : List Sp) (o : List Int) (k : Nat) : Like (freeTo M o k) M := by
  induction k with
  | zero => exact Like.refl _
  | succ k ih => exact (freeOne_like _ _).trans ih

theorem isTk_cases {c : Cl} {M : List Sp} (hg : GoodL c M) (a : Int) : (isTk M a).2 = 0 ∨ (isTk M a).2 = 8 := by
  unfold isTk
  rcases ofI_cases M a with ⟨h1, _⟩ | ⟨k, h1, h2, h3, h4⟩
  · rw [h1]; exact .inr rfl
  · rw [h1]
    show ((sAt M k).tkn a).2 = 0 ∨ ((sAt M k).tkn a).2 = 8
    obtain ⟨_, _, h5⟩ := Sp.obj_range (hg.sp k h2).1 a
    unfold Sp.tkn
    split
    · exact .inl rfl
    · exact h5
/-- An object that is known and taken. -/
theorem isTk_yes {M : List Sp} {a : Int} (h : isTk M a = (true, 0)) : ∃ j, ofI M a = some j ∧ j < M.length ∧ ((sAt M j).obj a).2 = 0 ∧ (sAt M j).st.getD ((sAt M j).obj a).1.toNat 0 = 1 := by
  unfold isTk at h
  rcases ofI_cases M a with ⟨h1, _⟩ | ⟨k, h1, h2, h3, h4⟩
  · rw [h1] at h; cases h
  · rw [h1] at h
    have h' : (sAt M k).tkn a = (true, 0) := h
    unfold Sp.tkn at h'
    split at h'
    · rename_i h5
      injection h' with h6
      exact ⟨k, h1, h2, h5, beq_iff_eq.1 h6⟩
    · rename_i h5
      injection h' with h6
      cases h6
/-- Where an object begins. -/
theorem Sp.obj_addr {s : Sp} {a : Int} (h : (s.obj a).2 = 0) : s.start * 256 + (s.obj a).1 * s.size = a := by
  unfold Sp.obj at h ⊢
  split at h
  · rename_i h1
    rw [if_pos h1]
    split at h
    · rename_i h2
      rw [if_pos h2]
      exact h2
    · cases h
  · rename_i h1
    exact absurd h h1
theorem Sp.free_ok {s : Sp} {a : Int} (h : (s.obj a).2 = 0) (h1 : s.st.getD (s.obj a).1.toNat 0 = 1) : s.free a = (0, s.put (s.obj a).1.toNat 0) := by
  unfold Sp.free
  rw [if_neg (by rw [h]; simp), if_neg (by rw [h1]; decide)]
theorem isTk_of {M : List Sp} {a : Int} {j : Nat} (h : ofI M a = some j) : isTk M a = (sAt M j).tkn a := by unfold isTk; rw [h]
/-- Another object stays as it was. -/
theorem isTk_free {c : Cl} {M : List Sp} (hg : GoodL c M) {a b : Int} (ha : isTk M a = (true, 0)) (hb : isTk M b = (true, 0)) (hab : a ≠ b) : isTk (freeOne M a) b = (true, 0) := by
  obtain ⟨i, i1, i2, i3, i4⟩ := isTk_yes ha
  obtain ⟨j, j1, j2, j3, j4⟩ := isTk_yes hb
  rw [isTk_of (j := j) (by rw [(freeOne_like M a).ofI]; exact j1)]
  have e : freeOne M a = M.set i ((sAt M i).free a).2 := by unfold freeOne; rw [i1]
  rw [e, sAt_set _ i2]
  split
  · rename_i hij
    subst hij
    rw [Sp.free_ok i3 i4]
    have hl := (Sp.free_like (sAt M i) a)
    rw [Sp.free_ok i3 i4] at hl
    unfold Sp.tkn
    rw [hl.obj, if_pos j3]
    have ra := Sp.obj_range (hg.sp i i2).1 a
    have rb := Sp.obj_range (hg.sp i i2).1 b
    have hne : ((sAt M i).obj a).1.toNat ≠ ((sAt M i).obj b).1.toNat := fun h => hab (by
      have h1 := Sp.obj_addr i3
      have h2 := Sp.obj_addr j3
      have h3 : ((sAt M i).obj a).1 = ((sAt M i).obj b).1 := by omega
      rw [h3] at h1
      exact h1.symm.trans h2)
    have : ((sAt M i).put ((sAt M i).obj a).1.toNat 0).st.getD ((sAt M i).obj b).1.toNat 0 = (sAt M i).st.getD ((sAt M i).obj b).1.toNat 0 := by
      simp only [Sp.put, List.getD_eq_getElem?_getD, List.getElem?_set]
      rw [if_neg hne]
    rw [this, j4]
    rfl
  · rw [← isTk_of j1]
    exact hb
theorem GoodL.free {c : Cl} {M : List Sp} (hg : GoodL c M) {a : Int} (ha : isTk M a = (true, 0)) : GoodL c (freeOne M a) := by
  obtain ⟨i, i1, i2, i3, i4⟩ := isTk_yes ha
  have hl := freeOne_like M a
  have e : freeOne M a = M.set i ((sAt M i).free a).2 := by unfold freeOne; rw [i1]
  refine ⟨hg.ok, fun j hj => ?_, fun k j hkj hj => ?_, by rw [hl.1]; exact hg.len⟩
  · have hj' : j < M.length := by rw [← hl.1]; exact hj
    have h1 := hl.2 j hj
    refine ⟨?_, h1.2.1.trans (hg.sp j hj').2.1, h1.2.2.1.trans (hg.sp j hj').2.2.1, h1.2.2.2.1.trans (hg.sp j hj').2.2.2⟩
    rw [e, sAt_set _ i2]
    split
    · rw [Sp.free_ok i3 i4]
      obtain ⟨r1, r2, _⟩ := Sp.obj_range (hg.sp i i2).1 a
      exact (hg.sp i i2).1.put (by omega) (.inl rfl)
    · exact (hg.sp j hj').1
  · have h1 := hl.2 k (by omega)
    have h2 := hl.2 j hj
    rw [h1.1, h1.2.2.1, h2.1]
    exact hg.ord k j hkj (by rw [← hl.1]; exact hj)

/-- As long as the objects are taken, and each stands there once, the next one is taken. -/
theorem freeTo_tk {c : Cl} {M : List Sp} (hg : GoodL c M) {o : List Int} (k : Nat) (hk : k ≤ o.length) (h1 : badTo M o o.length = false) (h2 : twiceTo M o o.length = false) : GoodL c (freeTo M o k) ∧ ∀ j, k ≤ j → j < o.length → isTk (freeTo M o k) (iAt o j) = (true, 0) := by
  have hB : ∀ n, badTo M o n = false → ∀ j, j < n → (isTk M (iAt o j)).2 = 0 := by
    intro n
    induction n with
    | zero => intro _ j hj; omega
    | succ n ih =>
      intro hb j hj
      rw [badTo, Bool.or_eq_false_iff] at hb
      by_cases e : j = n
      · subst e
        have := hb.2
        simpa using this
      · exact ih hb.1 j (by omega)
  have hT : ∀ n, twiceTo M o n = false → ∀ j, j < n → (isTk M (iAt o j)).1 = true ∧ idxOf (o.take j) (iAt o j) < 0 := by
    intro n
    induction n with
    | zero => intro _ j hj; omega
    | succ n ih =>
      intro hb j hj
      rw [twiceTo, Bool.or_eq_false_iff, Bool.or_eq_false_iff] at hb
      by_cases e : j = n
      · subst e
        refine ⟨by simpa using hb.1.2, ?_⟩
        have := of_decide_eq_false hb.2
        omega
      · exact ih hb.1.1 j (by omega)
  have hne : ∀ i j, i < j → j < o.length → iAt o i ≠ iAt o j := by
    intro i j hij hj he
    have h3 := (hT _ h2 j hj).2
    rcases idxOf_cases (o.take j) (iAt o j) with ⟨_, h4⟩ | ⟨k, h4, _⟩
    · exact h4 i (by rw [List.length_take]; omega) (by rw [← he]; simp [iAt, List.getD_eq_getElem?_getD, List.getElem?_take, hij])
    · omega
  induction k with
  | zero =>
    refine ⟨hg, fun j _ hj => ?_⟩
    have a := hB _ h1 j hj
    have b := (hT _ h2 j hj).1
    show isTk M (iAt o j) = _
    exact Prod.ext b a
  | succ k ih =>
    obtain ⟨i1, i2⟩ := ih (by omega)
    have hk0 := i2 k (Nat.le_refl _) (by omega)
    refine ⟨i1.free hk0, fun j hj hjl => ?_⟩
    exact isTk_free i1 hk0 (i2 j (by omega) hjl) (hne k j (by omega) hjl)
end Go.Proofs.Ytlmjelcnldlagaa
