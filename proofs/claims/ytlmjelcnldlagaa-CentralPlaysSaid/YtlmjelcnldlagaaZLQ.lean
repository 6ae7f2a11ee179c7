/- The calls of the layer's laws; great, do, made. -/
import Derived.Test.YtlmjelcnldlagaaZLP
set_option linter.unusedVariables false
set_option linter.unusedSimpArgs false
namespace Go.Proofs.Ytlmjelcnldlagaa
open Go.RowKit

structure Ac7 where
  k : Int
  a : Int
  B : Option Addr
  n : Nat
  cap : Nat
  o : List Int
def Ac7.z : Ac7 := ⟨0, 0, none, 0, 0, []⟩
def xAt (l : List Ac7) (j : Nat) : Ac7 := l.getD j Ac7.z
structure Ac7.okAt (x : Ac7) (w : World) : Prop where
  k : I64 x.k
  a : I64 x.a
  o : ReadsI w x.B x.n x.o
  i : ∀ j, j < x.n → I64 (iAt x.o j)
  c : x.n ≤ x.cap
  b : x.n ≤ 9223372036854775807
theorem ReadsI.still {w w' : World} {A : Option Addr} {n : Nat} {l : List Int} (h : ReadsI w A n l) (ho : Only [] w w') : ReadsI w' A n l := h.only ho (by simp)
theorem Ac7.okAt.still {x : Ac7} {w w' : World} (h : x.okAt w) (ho : Only [] w w') : x.okAt w' := ⟨h.k, h.a, h.o.still ho, h.i, h.c, h.b⟩
theorem Ac7.okAt.old {x : Ac7} {w : World} (h : x.okAt w) : 0 < x.n → ∀ ad, x.B = some ad → ad.block < w.heap.size := fun h0 ad e => by
  obtain ⟨ad', e', hc⟩ := h.o.2 h0
  rw [e] at e'
  injection e' with e'
  subst e'
  have := World.block_lt_of_cell? w _ (hc 0 h0)
  unfold Addr.add at this
  split at this <;> exact this
def Ac7.val (x : Ac7) : Value := .agg #[.int .i64 x.k, .int .i64 x.a, .slice x.B x.n x.cap]
def ReadsA (w : World) (A : Option Addr) (n : Nat) (l : List Ac7) : Prop := l.length = n ∧ (∀ j, j < n → (xAt l j).okAt w) ∧
  (0 < n → ∃ ad, A = some ad ∧ ∀ j, j < n → w.cell? (ad.add (j * 3)) = some (.int .i64 (xAt l j).k) ∧ w.cell? ⟨(ad.add (j * 3)).block, (ad.add (j * 3)).off + 1, none⟩ = some (.int .i64 (xAt l j).a) ∧
    w.cell? ⟨(ad.add (j * 3)).block, (ad.add (j * 3)).off + 2, none⟩ = some (.slice (xAt l j).B (xAt l j).n (xAt l j).cap))
theorem ReadsA.still {w w' : World} {A : Option Addr} {n : Nat} {l : List Ac7} (h : ReadsA w A n l) (ho : Only [] w w') : ReadsA w' A n l := by
  refine ⟨h.1, fun j hj => (h.2.1 j hj).still ho, fun h0 => ?_⟩
  obtain ⟨ad, rfl, hc⟩ := h.2.2 h0
  refine ⟨ad, rfl, fun j hj => ?_⟩
  obtain ⟨c0, c1, c2⟩ := hc j hj
  exact ⟨(ho.cell (World.block_lt_of_cell? w _ c0) (by simp)).trans c0, (ho.cell (World.block_lt_of_cell? w _ c1) (by simp)).trans c1, (ho.cell (World.block_lt_of_cell? w _ c2) (by simp)).trans c2⟩
theorem ReadsA.at_ {w : World} {A : Option Addr} {n : Nat} {l : List Ac7} (h : ReadsA w A n l) {j : Nat} (hj : j < n) : (xAt l j).okAt w ∧ ∃ ad, A = some ad ∧ w.cell? (ad.add (j * 3)) = some (.int .i64 (xAt l j).k) ∧ w.cell? ⟨(ad.add (j * 3)).block, (ad.add (j * 3)).off + 1, none⟩ = some (.int .i64 (xAt l j).a) ∧
    w.cell? ⟨(ad.add (j * 3)).block, (ad.add (j * 3)).off + 2, none⟩ = some (.slice (xAt l j).B (xAt l j).n (xAt l j).cap) := by
  obtain ⟨ad, h1, h2⟩ := h.2.2 (by omega)
  exact ⟨h.2.1 j hj, ad, h1, h2 j hj⟩
theorem ReadsA.none (w : World) : ReadsA w none 0 [] := ⟨rfl, fun j h => absurd h (by omega), fun h => absurd h (by omega)⟩

/-- Calls are more than are played. -/
def greatTo (l : List Ac7) : Nat → Bool
  | 0 => false
  | k + 1 => greatTo l k || decide (60 < (xAt l k).n)
theorem greatTo_true {l : List Ac7} {n k : Nat} (hk : k < n) (h : 60 < (xAt l k).n) : greatTo l n = true := by
  induction n with
  | zero => omega
  | succ n ih =>
    rw [greatTo]
    by_cases e : k = n
    · subst e; rw [decide_eq_true h, Bool.or_true]
    · rw [ih (by omega), Bool.true_or]
theorem greatTo_false {l : List Ac7} {n : Nat} (h : greatTo l n = false) (k : Nat) (hk : k < n) : (xAt l k).n ≤ 60 := by
  rcases Nat.lt_or_ge 60 (xAt l k).n with h1 | h1
  · rw [greatTo_true hk h1] at h; cases h
  · exact h1
def greatOf (l : List Ac7) : Bool := greatTo l l.length || decide (40 < l.length)
theorem greatOf_false {l : List Ac7} (h : greatOf l = false) : l.length ≤ 40 ∧ ∀ k, k < l.length → (xAt l k).n ≤ 60 := by
  rw [greatOf, Bool.or_eq_false_iff] at h
  have := of_decide_eq_false h.2
  exact ⟨by omega, greatTo_false h.1⟩

set_option maxHeartbeats 2000000 in
theorem great_any (w : World) (A : Option Addr) (n c : Nat) (l : List Ac7) (hr : ReadsA w A n l) (hn : n ≤ 9223372036854775807) : Still Try.prog 13 #[.slice A n c] w (.bool (greatOf l)) := by
  have HR := Lib.hid hr
  have HL := Lib.hid hr.1
  clear hr
  go_enter Try.func13, Try.ntmps13
  go_wp2_with fail
  go_loop [3] (fun t => ∃ k : Nat, k ≤ n ∧ t = .int .i64 k ∧ greatTo l k = false) (fun t => n - (intOf t).toNat)
  case atStart => exact ⟨0, Nat.zero_le _, rfl, rfl⟩
  case round =>
    obtain ⟨k, hk, rfl, hg⟩ := hrel
    have HG := Lib.hid hg
    clear hg
    by_cases hlt : k < n
    · have d1 : decide ((k : Int) < n) = true := decide_eq_true (by omega)
      obtain ⟨hok, ad, rfl, c0, c1, c2⟩ := HR.out.at_ hlt
      have hb := hok.b
      by_cases h60 : 60 < (xAt l k).n
      · have E : Hid (greatOf l = true) := by show _ = _; rw [greatOf, greatTo_true (k := k) (by rw [HL.out]; exact hlt) h60, Bool.true_or]
        have d2 : decide ((60 : Int) < ((xAt l k).n : Int)) = true := decide_eq_true (by omega)
        have d2' : decide (60 < (xAt l k).n) = true := decide_eq_true h60
        clear hok
        generalize xAt l k = x at *
        obtain ⟨xk, xa, xB, xn, xc, xo⟩ := x
        dsimp only at *
        go_wp2_with fail
        go_ret
        exact ⟨by rw [E.out]; rfl, rfl⟩
      · have E : Hid (greatTo l (k + 1) = false) := by show _ = _; rw [greatTo, HG.out, decide_eq_false h60]; rfl
        have d2 : decide ((60 : Int) < ((xAt l k).n : Int)) = false := decide_eq_false (by omega)
        have d2' : decide (60 < (xAt l k).n) = false := decide_eq_false h60
        clear hok
        generalize xAt l k = x at *
        obtain ⟨xk, xa, xB, xn, xc, xo⟩ := x
        dsimp only at *
        go_wp2_with fail
        go_round
        case rel => exact ⟨k + 1, by omega, by go_num, E.out⟩
        case measure => simp [intOf]; omega
    · have e : k = n := by omega
      subst e
      have d1 : decide ((k : Int) < k) = false := decide_eq_false (by omega)
      by_cases h40 : 40 < k
      · have E : Hid (greatOf l = true) := by show _ = _; rw [greatOf, HL.out, decide_eq_true h40, Bool.or_true]
        have d2 : decide ((40 : Int) < (k : Int)) = true := decide_eq_true (by omega)
        go_wp2_with fail
        go_ret
        exact ⟨by rw [E.out]; rfl, rfl⟩
      · have E : Hid (greatOf l = false) := by show _ = _; rw [greatOf, HL.out, HG.out, decide_eq_false h40]; rfl
        have d2 : decide ((40 : Int) < (k : Int)) = false := decide_eq_false (by omega)
        go_wp2_with fail
        go_ret
        exact ⟨by rw [E.out]; rfl, rfl⟩

/-- A call's answer, and the list behind it. -/
def actE (c : Cl) (M : List Sp) (x : Ac7) : Int :=
  if x.k = 0 then addE M c x.a else if x.k = 1 then (if x.a < 0 then 1 else 0) else if x.k = 2 then putE M x.o else if x.k = 3 then 0 else if x.k = 4 then (findM M x.a).2 else if x.k = 5 then (isTk M x.a).2 else 0
def actM (c : Cl) (M : List Sp) (x : Ac7) : List Sp :=
  if x.k = 0 then addM M c x.a else if x.k = 1 then (if x.a < 0 then M else (takesTo M x.a.toNat).2) else if x.k = 2 then putM M x.o else if x.k = 3 then keptOf M else M
def acts (c : Cl) (M : List Sp) (l : List Ac7) : Nat → List Sp
  | 0 => M
  | k + 1 => actM c (acts c M l k) (xAt l k)

theorem lFind_st {w : World} {P : Nat} {bl : List Nat} {c : Cl} {M : List Sp} (h : ListSt w P bl c M) (a : Int) (ha : I64 a) :
    Grew Try.prog 52 #[.pointer (some ⟨P, 0, none⟩), .int .i64 a] w (.tuple #[.int .i64 (findM M a).1, .int .i64 (findM M a).2]) := by
  obtain ⟨⟨A, L, h1, rfl, h3⟩, h4⟩ := h
  exact lFind_at h1 a ha
theorem lTaken_st {w : World} {P : Nat} {bl : List Nat} {c : Cl} {M : List Sp} (h : ListSt w P bl c M) : Grew Try.prog 27 #[.pointer (some ⟨P, 0, none⟩)] w (.int .i64 (manyOf M)) := by
  obtain ⟨⟨A, L, h1, rfl, h3⟩, h4⟩ := h
  exact lTaken_at h1
theorem lRoom_st {w : World} {P : Nat} {bl : List Nat} {c : Cl} {M : List Sp} (h : ListSt w P bl c M) : Grew Try.prog 22 #[.pointer (some ⟨P, 0, none⟩)] w (.int .i64 (roomOf M)) := by
  obtain ⟨⟨A, L, h1, rfl, h3⟩, h4⟩ := h
  exact lRoom_at h1
theorem lClass_st {w : World} {P : Nat} {bl : List Nat} {c : Cl} {M : List Sp} (h : ListSt w P bl c M) : Grew Try.prog 45 #[.pointer (some ⟨P, 0, none⟩)] w (.agg #[.int .i64 c.size, .int .i64 c.pages, .int .i64 c.batch]) := by
  obtain ⟨⟨A, L, h1, rfl, h3⟩, h4⟩ := h
  exact lClass_at h1
theorem lSpans_st {w : World} {P : Nat} {bl : List Nat} {c : Cl} {M : List Sp} (h : ListSt w P bl c M) : Calls Try.prog 16 #[.pointer (some ⟨P, 0, none⟩)] w fun e w' =>
    ∃ v, e = .returned v ∧ Only [] w w' ∧ w'.ownsRow w.heap.size 37 2 v M.length (cellsR (spansOf M)) := by
  obtain ⟨⟨A, L, h1, rfl, h3⟩, h4⟩ := h
  refine (lSpans_at h1).mono ?_
  rintro e w' ⟨v, a1, a2, a3⟩
  exact ⟨v, a1, a2, by rw [spans_len]; exact a3⟩

set_option maxRecDepth 100000 in
set_option maxHeartbeats 8000000 in
theorem ldo_any {w : World} {P : Nat} {bl : List Nat} {c : Cl} {M : List Sp} (h : ListSt w P bl c M) (x : Ac7) (hx : x.okAt w) (hn : x.n ≤ 60) (hB : 0 < x.n → ∀ ad, x.B = some ad → ad.block ∉ bl) :
    Calls Try.prog 24 #[.pointer (some ⟨P, 0, none⟩), x.val] w fun e w' => e = .returned (.int .i64 (actE c M x)) ∧ LTurn w P bl w' c (actM c M x) := by
  obtain ⟨k, a, B, n, cap, o⟩ := x
  obtain ⟨hk, ha, hro, hio, hcap, hb63⟩ := hx
  unfold Ac7.val
  dsimp only at hk ha hro hio hcap hb63 hn hB ⊢
  have ho0 := (Only.refl [] w).alloc (.cells #[.int .i64 k, .int .i64 a, .slice B n cap] 47)
  have bX := Blk.new w 47 #[.int .i64 k, .int .i64 a, .slice B n cap]
  have HS := Lib.hid (h.still ho0)
  have x0 := bX.cell_ 0 rfl
  have x1 := bX.cell_ 1 rfl
  have x2 := bX.cell_ 2 rfl
  have CP := Lib.hid (lPut_at (h.still ho0) B n cap o (hro.still ho0) hio (by omega) hcap hB)
  clear h bX hk hro hio hB
  by_cases k0 : k = 0
  · subst k0
    go_enter Try.func24, Try.ntmps24
    go_wp2_with fail
    refine (lAdd_at HS.out a ha).mono ?_
    rintro e w1 ⟨rfl, hT⟩
    generalize hE : addE M c a = ee at *
    have HE := Lib.hid hE
    clear hE
    go_wp2_with fail
    go_ret
    exact ⟨by show _ = Ending.returned (.int .i64 (addE M c a)); rw [HE.out]; rfl, LTurn.first ho0 hT⟩
  have d0 : (k == 0) = false := beq_eq_false_iff_ne.2 k0
  by_cases k1 : k = 1
  · subst k1
    have CT := Lib.hid (lTake_at HS.out a)
    by_cases hneg : a < 0
    · have HN := Lib.hid hneg
      clear hneg
      go_enter Try.func24, Try.ntmps24
      go_wp2_with fail
      refine CT.out.mono ?_
      rintro e w1 ⟨ho1, h1, _⟩
      obtain ⟨rfl, hst⟩ := h1 HN.out
      have HST := Lib.hid hst
      clear h1 hst
      go_wp2_with fail
      go_ret
      refine ⟨by show _ = Ending.returned (.int .i64 (if a < 0 then 1 else 0)); rw [if_pos HN.out]; rfl, ?_⟩
      show LTurn w P bl w1 c (if a < 0 then M else (takesTo M a.toNat).2)
      rw [if_pos HN.out]
      exact LTurn.first ho0 ⟨ho1, bl, HST.out, fun b hb => .inl hb⟩
    · have HN := Lib.hid (Int.not_lt.1 hneg)
      clear hneg
      go_enter Try.func24, Try.ntmps24
      go_wp2_with fail
      refine CT.out.mono ?_
      rintro e w1 ⟨ho1, _, h1⟩
      obtain ⟨v, rfl, hst, hown⟩ := h1 HN.out
      have HST := Lib.hid hst
      clear h1 hst hown
      go_wp2_with fail
      go_ret
      refine ⟨by show _ = Ending.returned (.int .i64 (if a < 0 then 1 else 0)); rw [if_neg (Int.not_lt.2 HN.out)]; rfl, ?_⟩
      show LTurn w P bl w1 c (if a < 0 then M else (takesTo M a.toNat).2)
      rw [if_neg (Int.not_lt.2 HN.out)]
      exact LTurn.first ho0 ⟨ho1, bl, HST.out, fun b hb => .inl hb⟩
  have d1 : (k == 1) = false := beq_eq_false_iff_ne.2 k1
  by_cases k2 : k = 2
  · subst k2
    go_enter Try.func24, Try.ntmps24
    go_wp2_with fail
    refine CP.out.mono ?_
    rintro e w1 ⟨v, rfl, ho1, hst, hown⟩
    have HST := Lib.hid hst
    clear hst hown
    generalize hE : putE M o = ee at *
    have HE := Lib.hid hE
    clear hE
    go_wp2_with fail
    go_ret
    exact ⟨by show _ = Ending.returned (.int .i64 (putE M o)); rw [HE.out]; rfl, LTurn.first ho0 ⟨ho1, bl, HST.out, fun b hb => .inl hb⟩⟩
  have d2 : (k == 2) = false := beq_eq_false_iff_ne.2 k2
  by_cases k3 : k = 3
  · subst k3
    go_enter Try.func24, Try.ntmps24
    go_wp2_with fail
    refine (lSweep_at HS.out).mono ?_
    rintro e w1 ⟨v, rfl, hown, ho1, hst⟩
    have HST := Lib.hid hst
    clear hst hown
    go_wp2_with fail
    go_ret
    exact ⟨rfl, LTurn.first ho0 ⟨ho1, bl, HST.out, fun b hb => .inl hb⟩⟩
  have d3 : (k == 3) = false := beq_eq_false_iff_ne.2 k3
  by_cases k4 : k = 4
  · subst k4
    go_enter Try.func24, Try.ntmps24
    go_wp2_with fail
    refine Grew.use (lFind_st HS.out a ha) (fun w1 ho1 => ?_)
    generalize hE : (findM M a).2 = ee at *
    generalize (findM M a).1 = ff at *
    have HE := Lib.hid hE
    clear hE
    go_wp2_with fail
    go_ret
    exact ⟨by show _ = Ending.returned (.int .i64 (findM M a).2); rw [HE.out]; rfl, LTurn.first ho0 (LTurn.same HS.out ho1)⟩
  have d4 : (k == 4) = false := beq_eq_false_iff_ne.2 k4
  by_cases k5 : k = 5
  · subst k5
    go_enter Try.func24, Try.ntmps24
    go_wp2_with fail
    refine Grew.use (lIsTaken_st HS.out a ha) (fun w1 ho1 => ?_)
    generalize hE : (isTk M a).2 = ee at *
    generalize (isTk M a).1 = ff at *
    have HE := Lib.hid hE
    clear hE
    go_wp2_with fail
    go_ret
    exact ⟨by show _ = Ending.returned (.int .i64 (isTk M a).2); rw [HE.out]; rfl, LTurn.first ho0 (LTurn.same HS.out ho1)⟩
  have d5 : (k == 5) = false := beq_eq_false_iff_ne.2 k5
  have E1 := Lib.hid (show actE c M ⟨k, a, B, n, cap, o⟩ = 0 by unfold actE; dsimp only; rw [if_neg k0, if_neg k1, if_neg k2, if_neg k3, if_neg k4, if_neg k5])
  have E2 := Lib.hid (show actM c M ⟨k, a, B, n, cap, o⟩ = M by unfold actM; dsimp only; rw [if_neg k0, if_neg k1, if_neg k2, if_neg k3])
  clear k0 k1 k2 k3 k4 k5 CP
  go_enter Try.func24, Try.ntmps24
  go_wp2_with fail
  go_ret
  exact ⟨by rw [E1.out]; rfl, by rw [E2.out]; exact LTurn.first ho0 (LTurn.same HS.out (Only.refl _ _))⟩

set_option maxRecDepth 100000 in
set_option maxHeartbeats 4000000 in
theorem lmadeOf_any (w : World) (c : Cl) (A : Option Addr) (n cp : Nat) (l : List Ac7) (hr : ReadsA w A n l) (hn : n ≤ 9223372036854775807) (h60 : ∀ j, j < n → (xAt l j).n ≤ 60) :
    Calls Try.prog 15 #[.agg #[.int .i64 c.size, .int .i64 c.pages, .int .i64 c.batch], .slice A n cp] w fun e w' => Only [] w w' ∧
      (c.ok → ∃ P bl, e = .returned (.pointer (some ⟨P, 0, none⟩)) ∧ ListSt w' P bl c (acts c [] l n) ∧ ∀ b ∈ bl, w.heap.size ≤ b) ∧ (¬ c.ok → e = .returned (.pointer none)) := by
  have ho0 := (Only.refl [] w).alloc (.cells #[.int .i64 c.size, .int .i64 c.pages, .int .i64 c.batch] 23)
  have bX := Blk.new w 23 #[.int .i64 c.size, .int .i64 c.pages, .int .i64 c.batch]
  have CN := Lib.hid (lNew_any (w.alloc (.cells #[.int .i64 c.size, .int .i64 c.pages, .int .i64 c.batch] 23)) c)
  have HR := Lib.hid hr
  have H60 := Lib.hid h60
  clear hr h60 bX
  by_cases hok : c.ok
  · have HOK := Lib.hid hok
    clear hok
    go_enter Try.func15, Try.ntmps15
    go_wp2_with fail
    refine CN.out.mono ?_
    rintro e w1 ⟨ho1, h1, _⟩
    obtain ⟨P, bl, rfl, hst, hbl⟩ := h1 HOK.out
    have hbl' : ∀ b ∈ bl, w.heap.size ≤ b := fun b hb => Nat.le_trans ho0.size (hbl b hb)
    have HST := Lib.hid hst
    have HBL := Lib.hid hbl'
    clear h1 hst hbl hbl'
    go_wp2_with fail
    go_loopw [7] (fun t wr => ∃ (k : Nat) (bl : List Nat), k ≤ n ∧ t = .int .i64 k ∧ Only [] w wr ∧ ListSt wr P bl c (acts c [] l k) ∧ ∀ b ∈ bl, w.heap.size ≤ b) (fun t _ => n - (intOf t).toNat)
    case atStart => exact ⟨0, bl, Nat.zero_le _, rfl, ho0.trans ho1, HST.out, HBL.out⟩
    case round =>
      obtain ⟨k, bl, hk, rfl, ho, hst, hbl⟩ := hrel
      by_cases hlt : k < n
      · have d1 : decide ((k : Int) < n) = true := decide_eq_true (by omega)
        obtain ⟨hok, ad, rfl, c0, c1, c2⟩ := (HR.out.still ho).at_ hlt
        have hold := (HR.out.at_ hlt).1.old
        have CD := Lib.hid (ldo_any hst (xAt l k) hok (H60.out k hlt) (fun h0 ad e hb => by
          have a1 := hold h0 ad e
          have a2 := hbl _ hb
          omega))
        have HACT : Hid (acts c [] l (k + 1) = actM c (acts c [] l k) (xAt l k)) := rfl
        have HHL := Lib.hid hbl
        generalize actE c (acts c [] l k) (xAt l k) = ee at *
        generalize actM c (acts c [] l k) (xAt l k) = mm at *
        clear hst hok hbl hold
        unfold Ac7.val at CD
        generalize xAt l k = x at *
        obtain ⟨xk, xa, xB, xn, xc, xo⟩ := x
        dsimp only at *
        go_wp2_with fail
        refine CD.out.mono ?_
        rintro e w2 ⟨rfl, hT⟩
        obtain ⟨ho2, bl2, hst2, hbl2⟩ := LTurn.new ho HHL.out hT
        go_wp2_with fail
        go_roundw
        case rel => exact ⟨k + 1, bl2, by omega, by go_num, ho2, by rw [HACT.out]; exact hst2, hbl2⟩
        case measure => simp [intOf]; omega
      · have e : k = n := by omega
        subst e
        have d1 : decide ((k : Int) < k) = false := decide_eq_false (by omega)
        go_wp2_with fail
        go_ret
        exact ⟨ho, fun _ => ⟨P, bl, rfl, hst, hbl⟩, fun h => absurd HOK.out h⟩
  · have HOK := Lib.hid hok
    clear hok
    go_enter Try.func15, Try.ntmps15
    go_wp2_with fail
    refine CN.out.mono ?_
    rintro e w1 ⟨ho1, _, h1⟩
    rw [h1 HOK.out]
    clear h1
    go_wp2_with fail
    go_ret
    exact ⟨ho0.trans ho1, fun h => absurd h HOK.out, fun _ => rfl⟩
end Go.Proofs.Ytlmjelcnldlagaa
