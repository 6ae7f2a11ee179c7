/- play on a space and the reference's. -/
import Derived.Test.YtmalmkccgjeboaaDoorWK
import Derived.Test.YtmalmkccgjeboaaDoorWA
import Derived.Deep.RegionHeld3
set_option linter.unusedVariables false
set_option linter.unusedSimpArgs false
namespace Go.Proofs.YtmalmkccgjeboaaDoor
open Go.RowKit
open Go.ChangeMaps Go.Maps

/-- A space and a reference's space, made since the world w0, apart. -/
structure Two (w0 w : World) (p : Nat) (l : List Nat) (p' q1 q2 c1 c2 : Nat) (m m' : SpM) : Prop where
  only : Only [] w0 w
  sp : SpaceAt w p l m
  rf : RefAt w p' q1 q2 c1 c2 m'
  ap : p' ∉ l ∧ q1 ∉ l ∧ q2 ∉ l
  lb : ∀ b ∈ l, w0.heap.size ≤ b
  rb : w0.heap.size ≤ p' ∧ w0.heap.size ≤ q1 ∧ w0.heap.size ≤ q2
namespace Two
variable {w0 w w1 : World} {p : Nat} {l : List Nat} {p' q1 q2 c1 c2 : Nat} {m m' m1 : SpM}
theorem env (h : Two w0 w p l p' q1 q2 c1 c2 m m') (hE : Env w0) : Env w := hE.only h.only (by simp)
theorem still (h : Two w0 w p l p' q1 q2 c1 c2 m m') (ho : Only [] w w1) : Two w0 w1 p l p' q1 q2 c1 c2 m m' := ⟨h.only.trans ho, h.sp.still ho, h.rf.still ho, h.ap, h.lb, h.rb⟩
theorem turn (h : Two w0 w p l p' q1 q2 c1 c2 m m') (ht : Turn w p l w1 m1) : ∃ l', Two w0 w1 p l' p' q1 q2 c1 c2 m1 m' ∧ ∀ b ∈ l', b ∈ l ∨ w.heap.size ≤ b := by
  obtain ⟨ho, l', hs, hl'⟩ := ht
  have a1 := h.rf.ltp
  have a2 := h.rf.lt1
  have a3 := h.rf.lt2
  have hz := h.only.size
  refine ⟨l', ⟨h.only.then_ ho (fun b hb => .inr (h.lb b hb)), hs, h.rf.only ho h.ap.1 h.ap.2.1 h.ap.2.2, ⟨fun hb => ?_, fun hb => ?_, fun hb => ?_⟩, fun b hb => ?_, h.rb⟩, hl'⟩
  · rcases hl' _ hb with h1 | h1
    · exact h.ap.1 h1
    · omega
  · rcases hl' _ hb with h1 | h1
    · exact h.ap.2.1 h1
    · omega
  · rcases hl' _ hb with h1 | h1
    · exact h.ap.2.2 h1
    · omega
  · rcases hl' _ hb with h1 | h1
    · exact h.lb b h1
    · omega
theorem ref (h : Two w0 w p l p' q1 q2 c1 c2 m m') (ho : Only [p', q1, q2] w w1) (hr : RefAt w1 p' q1 q2 c1 c2 m1) : Two w0 w1 p l p' q1 q2 c1 c2 m m1 := by
  have hap := h.ap
  have hrb := h.rb
  refine ⟨h.only.then_ ho (fun b hb => .inr ?_), h.sp.only ho (fun b hb hb' => ?_), hr, h.ap, h.lb, h.rb⟩
  · simp at hb
    rcases hb with rfl | rfl | rfl
    · exact hrb.1
    · exact hrb.2.1
    · exact hrb.2.2
  · simp at hb'
    rcases hb' with rfl | rfl | rfl
    · exact hap.1 hb
    · exact hap.2.1 hb
    · exact hap.2.2 hb
theorem blk (h : Two w0 w p l p' q1 q2 c1 c2 m m') {bx : Nat} {t : TypeId} {cs : Array Value} (b : Blk w bx t cs) (hb : bx ∉ l) (ht : Turn w p l w1 m1) : Blk w1 bx t cs := b.only ht.1 hb
end Two

theorem Turn.blk {w w1 : World} {p : Nat} {l : List Nat} {m1 : SpM} (ht : Turn w p l w1 m1) {bx : Nat} {t : TypeId} {cs : Array Value} (b : Blk w bx t cs) (hb : bx ∉ l) : Blk w1 bx t cs := b.only ht.1 hb

set_option maxRecDepth 100000 in
set_option maxHeartbeats 8000000 in
theorem play2 {w0 w : World} (hE : Env w0) {p : Nat} {l : List Nat} {p' q1 q2 c1 c2 : Nat} {m : SpM} (h : Two w0 w p l p' q1 q2 c1 c2 m m) (x : Ac) (hx : x.ok) :
    Calls Tryd.prog 33 #[.pointer (some ⟨p, 0, none⟩), .pointer (some ⟨p', 0, none⟩), .agg #[.int .i64 x.k, .int .i64 x.a, .int .i64 x.b, .int .i64 x.c]] w fun e w' => e = .returned (.bool true) ∧ ∃ l', Two w0 w' p l' p' q1 q2 c1 c2 (m.act x) (m.act x) := by
  obtain ⟨k, a, b, c⟩ := x
  obtain ⟨hk, ha, hb, hc⟩ := hx
  dsimp only at hk ha hb hc ⊢
  have ho0 := (Only.refl [] w).alloc (.cells #[.int .i64 k, .int .i64 a, .int .i64 b, .int .i64 c] 30)
  have bX := Blk.new w 30 #[.int .i64 k, .int .i64 a, .int .i64 b, .int .i64 c]
  have nX : w.heap.size ∉ l := fun hb => absurd (h.sp.lt _ hb) (Nat.lt_irrefl _)
  have nR : w.heap.size ∉ [p', q1, q2] := by
    have a1 := h.rf.ltp
    have a2 := h.rf.lt1
    have a3 := h.rf.lt2
    simp
    omega
  have HT := Lib.hid (h.still ho0)
  have HTd := Lib.hid (h.still ho0.drew)
  have HE := Lib.hid hE
  have NX := Lib.hid nX
  have NR := Lib.hid nR
  have bXd := bX.drew
  have BXD := Lib.hid bXd
  have BX := Lib.hid bX
  have x0 := bX.cell_ 0 rfl
  have x1 := bX.cell_ 1 rfl
  have x2 := bX.cell_ 2 rfl
  have x3 := bX.cell_ 3 rfl
  clear h hE bX hk nX nR bXd
  by_cases k0 : k = 0
  · subst k0
    clear ho0
    go_enter Tryd.func33, Tryd.ntmps33
    go_wp2_with fail
    have bX := BXD.out
    go_region_held3 (fun w' => w'.cell? ⟨w.heap.size, 1, none⟩ = some (.int .i64 a) ∧ w'.cell? ⟨w.heap.size, 2, none⟩ = some (.int .i64 b))
      (refine ⟨Blk.cell_ (t := 30) (cs := #[.int .i64 0, .int .i64 a, .int .i64 b, .int .i64 c]) ?_ 1 rfl, Blk.cell_ (t := 30) (cs := #[.int .i64 0, .int .i64 a, .int .i64 b, .int .i64 c]) ?_ 2 rfl⟩ <;> assumption)
      (first
        | (go_at_call 25; refine (Map_any (HTd.out.env HE.out) HTd.out.sp a b ha hb).mono ?_; rintro e w2 ⟨rfl, hT⟩; obtain ⟨l2, h2, hl2⟩ := HTd.out.turn hT; have b2 := hT.blk bX NX.out)
        | (go_at_call 51; refine (xMap h2.rf a b ha hb).mono ?_; rintro e w3 ⟨rfl, ho3, hr3⟩; have h3 := h2.ref ho3 hr3; have b3 := b2.only ho3 NR.out))
    go_wp2
    go_ret
    exact ⟨rfl, l2, h3⟩
  have d0 : (k == 0) = false := beq_eq_false_iff_ne.2 k0
  by_cases k1 : k = 1
  · subst k1
    clear ho0
    go_enter Tryd.func33, Tryd.ntmps33
    go_wp2_with fail
    have bX := BXD.out
    go_region_held3 (fun w' => w'.cell? ⟨w.heap.size, 1, none⟩ = some (.int .i64 a) ∧ w'.cell? ⟨w.heap.size, 2, none⟩ = some (.int .i64 b))
      (refine ⟨Blk.cell_ (t := 30) (cs := #[.int .i64 1, .int .i64 a, .int .i64 b, .int .i64 c]) ?_ 1 rfl, Blk.cell_ (t := 30) (cs := #[.int .i64 1, .int .i64 a, .int .i64 b, .int .i64 c]) ?_ 2 rfl⟩ <;> assumption)
      (first
        | (go_at_call 23; refine (Unmap_any (HTd.out.env HE.out) HTd.out.sp a b ha hb).mono ?_; rintro e w2 ⟨rfl, hT⟩; obtain ⟨l2, h2, hl2⟩ := HTd.out.turn hT; have b2 := hT.blk bX NX.out)
        | (go_at_call 52; refine (xUnmap h2.rf a b ha hb).mono ?_; rintro e w3 ⟨rfl, ho3, hr3⟩; have h3 := h2.ref ho3 hr3; have b3 := b2.only ho3 NR.out))
    go_wp2
    go_ret
    exact ⟨rfl, l2, h3⟩
  have d1 : (k == 1) = false := beq_eq_false_iff_ne.2 k1
  by_cases k2 : k = 2
  · subst k2
    clear ho0
    go_enter Tryd.func33, Tryd.ntmps33
    go_wp2_with fail
    have bX := BXD.out
    go_region_held3 (fun w' => w'.cell? ⟨w.heap.size, 1, none⟩ = some (.int .i64 a) ∧ w'.cell? ⟨w.heap.size, 2, none⟩ = some (.int .i64 b))
      (refine ⟨Blk.cell_ (t := 30) (cs := #[.int .i64 2, .int .i64 a, .int .i64 b, .int .i64 c]) ?_ 1 rfl, Blk.cell_ (t := 30) (cs := #[.int .i64 2, .int .i64 a, .int .i64 b, .int .i64 c]) ?_ 2 rfl⟩ <;> assumption)
      (first
        | (go_at_call 26; refine (Release_any (HTd.out.env HE.out) HTd.out.sp a b ha hb).mono ?_; rintro e w2 ⟨rfl, hT⟩; obtain ⟨l2, h2, hl2⟩ := HTd.out.turn hT; have b2 := hT.blk bX NX.out)
        | (go_at_call 53; refine (xRelease h2.rf a b ha hb).mono ?_; rintro e w3 ⟨rfl, ho3, hr3⟩; have h3 := h2.ref ho3 hr3; have b3 := b2.only ho3 NR.out))
    go_wp2
    go_ret
    exact ⟨rfl, l2, h3⟩
  have d2 : (k == 2) = false := beq_eq_false_iff_ne.2 k2
  by_cases k3 : k = 3
  · subst k3
    have CR := Lib.hid (Read_any (HT.out.env HE.out) HT.out.sp a ha)
    have CX := Lib.hid (fun W (h1 : Only [] _ W) => xRead (HT.out.rf.still h1) a ha)
    generalize (if m.acc a 1 = 0 then m.h (a / 8) else 0) = rv at *
    generalize m.acc a 1 = rc at *
    go_enter Tryd.func33, Tryd.ntmps33
    go_wp2_with (first | (go_at_call 17; with_reducible refine Grew.use CR.out (fun w1 ho1 => ?_); have y1 := (BX.out.only ho1 (by simp)).cell_ 1 rfl) | (go_at_call 54; with_reducible refine Still.use (CX.out _ ho1) ?_))
    go_ret
    exact ⟨rfl, l, HT.out.still ho1⟩
  have d3 : (k == 3) = false := beq_eq_false_iff_ne.2 k3
  by_cases k4 : k = 4
  · subst k4
    clear ho0
    go_enter Tryd.func33, Tryd.ntmps33
    go_wp2_with fail
    have bX := BXD.out
    go_region_held3 (fun w' => w'.cell? ⟨w.heap.size, 1, none⟩ = some (.int .i64 a) ∧ w'.cell? ⟨w.heap.size, 2, none⟩ = some (.int .i64 b))
      (refine ⟨Blk.cell_ (t := 30) (cs := #[.int .i64 4, .int .i64 a, .int .i64 b, .int .i64 c]) ?_ 1 rfl, Blk.cell_ (t := 30) (cs := #[.int .i64 4, .int .i64 a, .int .i64 b, .int .i64 c]) ?_ 2 rfl⟩ <;> assumption)
      (first
        | (go_at_call 16; refine (Write_any (HTd.out.env HE.out) HTd.out.sp a b ha hb).mono ?_; rintro e w2 ⟨rfl, hT⟩; obtain ⟨l2, h2, hl2⟩ := HTd.out.turn hT; have b2 := hT.blk bX NX.out)
        | (go_at_call 55; refine (xWrite h2.rf a b ha).mono ?_; rintro e w3 ⟨rfl, ho3, hr3⟩; have h3 := h2.ref ho3 hr3; have b3 := b2.only ho3 NR.out))
    go_wp2
    go_ret
    exact ⟨rfl, l2, h3⟩
  have d4 : (k == 4) = false := beq_eq_false_iff_ne.2 k4
  by_cases k5 : k = 5
  · subst k5
    have CR := Lib.hid (Words_any (HT.out.env HE.out) HT.out.sp a b ha)
    have CX := Lib.hid (fun W (h1 : Only [] _ W) => xWords (HT.out.rf.still h1) a b ha)
    by_cases h0 : m.cnt a b = 0
    · have E := Lib.hid h0
      have hb1 : b.toNat ≤ 1000000 := by
        rcases m.cnt_cases a b with h1 | h1 | h1
        · rw [h1.1] at h0; cases h0
        · rw [h1.1] at h0; cases h0
        · omega
      have HB1 := Lib.hid hb1
      clear hb1 h0
      go_enter Tryd.func33, Tryd.ntmps33
      go_wp2_with fail
      refine CR.out.mono ?_
      rintro e w1 ⟨ho1, h1, _⟩
      obtain ⟨B, rfl, hI⟩ := h1 E.out
      have RA := Lib.hid (hI.readsV (c := b.toNat))
      clear h1 hI
      have y1 := (BX.out.only ho1 (by simp)).cell_ 1 rfl
      have y2 := (BX.out.only ho1 (by simp)).cell_ 2 rfl
      go_wp2_with fail
      refine (CX.out _ ho1).mono ?_
      rintro e w2 ⟨ho2, h1, _⟩
      obtain ⟨x, rfl, hx⟩ := h1 E.out
      have RB := Lib.hid (own_readsV hx)
      clear h1 hx
      have CI := Lib.hid (Ints_eq w2 _ _ _ _ (RA.out.still ho2) RB.out HB1.out)
      go_wp2_with (go_at_call 57; with_reducible refine Grew.use CI.out (fun w3 ho3 => ?_))
      go_ret
      exact ⟨rfl, l, HT.out.still (ho1.trans (ho2.trans ho3))⟩
    · have E := Lib.hid h0
      clear h0
      go_enter Tryd.func33, Tryd.ntmps33
      go_wp2_with fail
      refine CR.out.mono ?_
      rintro e w1 ⟨ho1, _, h1⟩
      rw [h1 E.out]
      clear h1
      have y1 := (BX.out.only ho1 (by simp)).cell_ 1 rfl
      have y2 := (BX.out.only ho1 (by simp)).cell_ 2 rfl
      go_wp2_with fail
      refine (CX.out _ ho1).mono ?_
      rintro e w2 ⟨ho2, _, h1⟩
      rw [h1 E.out]
      clear h1
      generalize m.cnt a b = rc at *
      go_wp2_with (go_at_call 57; with_reducible refine Still.use (nInts _) ?_)
      go_ret
      exact ⟨rfl, l, HT.out.still (ho1.trans ho2)⟩
  have d5 : (k == 5) = false := beq_eq_false_iff_ne.2 k5
  by_cases k6 : k = 6
  · subst k6
    clear ho0
    go_enter Tryd.func33, Tryd.ntmps33
    go_wp2_with fail
    have bX := BXD.out
    go_region_held3 (fun w' => w'.cell? ⟨w.heap.size, 1, none⟩ = some (.int .i64 a) ∧ w'.cell? ⟨w.heap.size, 2, none⟩ = some (.int .i64 b) ∧ w'.cell? ⟨w.heap.size, 3, none⟩ = some (.int .i64 c))
      (refine ⟨Blk.cell_ (t := 30) (cs := #[.int .i64 6, .int .i64 a, .int .i64 b, .int .i64 c]) ?_ 1 rfl, Blk.cell_ (t := 30) (cs := #[.int .i64 6, .int .i64 a, .int .i64 b, .int .i64 c]) ?_ 2 rfl, Blk.cell_ (t := 30) (cs := #[.int .i64 6, .int .i64 a, .int .i64 b, .int .i64 c]) ?_ 3 rfl⟩ <;> assumption)
      (first
        | (go_at_call 28; refine (Fill_any (HTd.out.env HE.out) HTd.out.sp a b c ha hc).mono ?_; rintro e w2 ⟨rfl, hT⟩; obtain ⟨l2, h2, hl2⟩ := HTd.out.turn hT; have b2 := hT.blk bX NX.out)
        | (go_at_call 58; refine (xFill h2.rf a b c ha).mono ?_; rintro e w3 ⟨rfl, ho3, hr3⟩; have h3 := h2.ref ho3 hr3; have b3 := b2.only ho3 NR.out))
    go_wp2
    go_ret
    exact ⟨rfl, l2, h3⟩
  have d6 : (k == 6) = false := beq_eq_false_iff_ne.2 k6
  by_cases k7 : k = 7
  · subst k7
    clear ho0
    go_enter Tryd.func33, Tryd.ntmps33
    go_wp2_with fail
    have bX := BXD.out
    go_region_held3 (fun w' => w'.cell? ⟨w.heap.size, 1, none⟩ = some (.int .i64 a) ∧ w'.cell? ⟨w.heap.size, 2, none⟩ = some (.int .i64 b) ∧ w'.cell? ⟨w.heap.size, 3, none⟩ = some (.int .i64 c))
      (refine ⟨Blk.cell_ (t := 30) (cs := #[.int .i64 7, .int .i64 a, .int .i64 b, .int .i64 c]) ?_ 1 rfl, Blk.cell_ (t := 30) (cs := #[.int .i64 7, .int .i64 a, .int .i64 b, .int .i64 c]) ?_ 2 rfl, Blk.cell_ (t := 30) (cs := #[.int .i64 7, .int .i64 a, .int .i64 b, .int .i64 c]) ?_ 3 rfl⟩ <;> assumption)
      (first
        | (go_at_call 29; refine (Copy_any (HTd.out.env HE.out) HTd.out.sp a b c ha hb).mono ?_; rintro e w2 ⟨rfl, hT⟩; obtain ⟨l2, h2, hl2⟩ := HTd.out.turn hT; have b2 := hT.blk bX NX.out)
        | (go_at_call 59; refine (xCopy h2.rf a b c ha hb).mono ?_; rintro e w3 ⟨rfl, ho3, hr3⟩; have h3 := h2.ref ho3 hr3; have b3 := b2.only ho3 NR.out))
    go_wp2
    go_ret
    exact ⟨rfl, l2, h3⟩
  have d7 : (k == 7) = false := beq_eq_false_iff_ne.2 k7
  have E2 := Lib.hid (show m.act ⟨k, a, b, c⟩ = m by unfold SpM.act; dsimp only; rw [if_neg k0, if_neg k1, if_neg k2, if_neg k3, if_neg k4, if_neg k5, if_neg k6, if_neg k7])
  clear k0 k1 k2 k3 k4 k5 k6 k7
  go_enter Tryd.func33, Tryd.ntmps33
  go_wp2_with fail
  go_ret
  exact ⟨rfl, by rw [E2.out]; exact ⟨l, HT.out⟩⟩
end Go.Proofs.YtmalmkccgjeboaaDoor
