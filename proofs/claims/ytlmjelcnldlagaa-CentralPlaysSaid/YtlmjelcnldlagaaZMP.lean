/- The reference's list: Add. -/
import Derived.Test.YtlmjelcnldlagaaZMO
import Derived.Laws.AppendOwnNone
set_option linter.unusedVariables false
set_option linter.unusedSimpArgs false
namespace Go.Proofs.Ytlmjelcnldlagaa
open Go.RowKit

theorem add_plain' (g o k : Nat) : (⟨g, o, none⟩ : Addr).add k = ⟨g, o + k, none⟩ := by unfold Addr.add; split <;> simp_all
/-- A part of a row: what append may be handed. -/
def Part (w : World) (v : Value) (m : Nat) (news : List Value) : Prop := (v = .slice none 0 0 ∧ m = 0 ∧ news = []) ∨ ∃ ad c, v = .slice (some ad) m c ∧ news.length = m ∧ (∀ j u, news[j]? = some u → w.cell? (ad.add j) = some u) ∧ ∀ u ∈ news, u.oneCell' = true
theorem QAt.part {w : World} {P N cp : Nat} {ad : Option Addr} {c : Cl} {L : List En} (h : QAt w P (.slice ad N cp) c L) {i j : Nat} (hij : i ≤ j) (hj : j ≤ L.length) : Part w (sliced ad i j cp 1) (j - i) (((ptrs L).take j).drop i) := by
  have hone : ∀ u ∈ ((ptrs L).take j).drop i, u.oneCell' = true := fun u hu => by
    have := List.mem_of_mem_take (List.mem_of_mem_drop hu)
    simp [ptrs] at this
    obtain ⟨e, _, rfl⟩ := this
    rfl
  have hlen : (((ptrs L).take j).drop i).length = j - i := by rw [List.length_drop, List.length_take, ptrs_len]; omega
  rcases h.row.2 with ⟨h1, h2⟩ | ⟨g, cap, cur, h1, hb, hg, h3, h4, h5, h6⟩
  · injection h1 with e1 e2 e3
    subst e1 e2 e3
    left
    have : L = [] := List.eq_nil_of_length_eq_zero h2
    subst this
    simp at hj
    subst hj
    have : i = 0 := by omega
    subst this
    exact ⟨rfl, rfl, rfl⟩
  · injection h1 with e1 e2 e3
    subst e1 e3
    right
    have hB : Blk w g 99 cur := hg
    refine ⟨⟨g, if cp = i then 0 else i, none⟩, cp - i, ?_, hlen, fun k u hu => ?_, hone⟩
    · unfold sliced
      split
      · rfl
      · rw [Nat.mul_one, Option.map_some, add_plain', Nat.zero_add]
    · have hk : k < j - i := by
        rcases Nat.lt_or_ge k (j - i) with h | h
        · exact h
        · rw [List.getElem?_eq_none (by omega)] at hu; cases hu
      rw [List.getElem?_drop, List.getElem?_take, if_pos (by omega)] at hu
      have hlt : i + k < (ptrs L).length := by rw [ptrs_len]; omega
      have hne : ¬ (cp = i) := by omega
      rw [if_neg hne]
      have hc : cur[i + k]? = some u := by
        rw [← hu, ← h6, List.getElem?_take, if_pos (by omega), Array.getElem?_toList]
      rw [add_plain']
      exact hB.cell_ (i + k) hc
theorem wpList_append_part {P : Program} {w : World} {ops : Array Oper} {rest : List Oper} {o : Oper} {a : Act} {Q : Exit → Act → World → Prop} (hgd : o.guard = none) (s x : Operand) (t : TypeId)
    (ho : o.op = .call { callee := .builtin .append, args := #[s, x], argTypes := #[t, t] })
    (base : Nat) (e : TypeId) (i : TypeInfo) (z : Value) (bytes : Nat) (ht : P.underlying t = some (.slice e)) (hi : P.info? e = some i) (hz : i.zero = some z)
    (hsize : i.size = 1) (hby : i.bytes = bytes) (hzs : z.cells.size = 1)
    (v : Value) (n : Nat) (xs : List Value) (hs : a.eval s = v) (hown : w.ownsRow base e 1 v n xs)
    (V : Value) (m : Nat) (news : List Value) (hx : a.eval x = V) (hp : Part w V m news)
    (h63 : n + m ≤ maxLen) (hbytes : (n + m) * bytes ≤ 140737488355328) (hbase : base ≤ w.heap.size)
    (h : ∀ v' w', w'.ownsRow base e 1 v' (n + m) (xs ++ news) → w.grownBy w' v.ownBlock → wpList P ops Q rest (a.put o.dst v') w') : wpList P ops Q (o :: rest) a w := by
  rcases hp with ⟨rfl, rfl, rfl⟩ | ⟨ad, c, rfl, h1, h2, h3⟩
  · refine wpList_append_own_none hgd s x t ho base e i 1 ht hi v n xs hs hown hx ?_
    have := h v w (by simpa using hown) ⟨rfl, rfl, rfl, Nat.le_refl _, fun _ _ _ => rfl⟩
    exact this
  · exact wpList_append_own w hgd s x t ho base e i z 1 bytes ht hi hz hsize hby hzs (by decide) v n xs hs hown ad m c news hx (by rw [h1, Nat.mul_one]) h2 h3 h63 hbytes hbase (fun v' w' a b _ => h v' w' a b)

/-- A slice op whose result stays a letter. -/
theorem wpList_slice_to {P : Program} {w : World} {ops : Array Oper} {rest : List Oper} {o : Oper} {a : Act} {Q : Exit → Act → World → Prop} (hgd : o.guard = none) (t : TypeId) (x y : Operand)
    (ho : o.op = .slice t x none (some y) none) (ht : P.underlying t = some (.slice (P.elem t))) (i : TypeInfo) (hi : P.info? (P.elem t) = some i) (hsize : i.size = 1)
    (ad : Option Addr) (len cap k : Nat) (hx : a.eval x = .slice ad len cap) (hy : a.eval y = .int .i64 (k : Nat)) (hk : k ≤ cap)
    (h : ∀ v, v = sliced ad 0 k cap 1 → wpList P ops Q rest (a.put o.dst v) w) : wpList P ops Q (o :: rest) a w := by
  refine wpList_plain hgd fun K hK => ?_
  unfold Oper.wp
  have hr := run_slice_h (P := P) w t ad len cap ht .i64 (k : Int) (by omega) (by omega)
  have hs := run_sliceAt_slice (P := P) w t
  have hsz : (sizeOf (P.elem t)).run P w = .ok 1 w := by simp [sizeOf, typeInfo, hi, hsize]
  simp only [hsz, Result.andThen_ok, Int.toNat_natCast] at hr
  simp only [execOp, ho, Option.map_none, Option.map_some, hx, hy, hs _ _ _ _ ht, hr, Sem.run_bind, Sem.run_pure, Result.andThen_ok]
  exact hK _ _ (h _ rfl)
theorem wpList_slice_from {P : Program} {w : World} {ops : Array Oper} {rest : List Oper} {o : Oper} {a : Act} {Q : Exit → Act → World → Prop} (hgd : o.guard = none) (t : TypeId) (x y : Operand)
    (ho : o.op = .slice t x (some y) none none) (ht : P.underlying t = some (.slice (P.elem t))) (i : TypeInfo) (hi : P.info? (P.elem t) = some i) (hsize : i.size = 1)
    (ad : Option Addr) (len cap k : Nat) (hx : a.eval x = .slice ad len cap) (hy : a.eval y = .int .i64 (k : Nat)) (hk : k ≤ len)
    (h : ∀ v, v = sliced ad k len cap 1 → wpList P ops Q rest (a.put o.dst v) w) : wpList P ops Q (o :: rest) a w := by
  refine wpList_plain hgd fun K hK => ?_
  unfold Oper.wp
  have hr := run_slice_l (P := P) w t ad len cap ht .i64 (k : Int) (by omega) (by omega)
  have hs := run_sliceAt_slice (P := P) w t
  have hsz : (sizeOf (P.elem t)).run P w = .ok 1 w := by simp [sizeOf, typeInfo, hi, hsize]
  simp only [hsz, Result.andThen_ok, Int.toNat_natCast] at hr
  simp only [execOp, ho, Option.map_none, Option.map_some, hx, hy, hs _ _ _ _ ht, hr, Sem.run_bind, Sem.run_pure, Result.andThen_ok]
  exact hK _ _ (h _ rfl)

theorem qAdd_end {w w1 w5 : World} {P p q cap n : Nat} {bl : List Nat} {A A' : Value} {c : Cl} {L : List En} {x : Int} {pos : Nat} (hA : QAt w P A c L) (hI : InBl P A L bl) (hlt : ∀ b ∈ bl, b < w.heap.size) (hf : Sp.fits x c.size c.pages c.batch)
    (hcl : closeTo (spans L) x c.pages L.length = false) (hpos : pos = posTo (spans L) x L.length) (ho1 : Only [] w w1) (hsp : RefAt w1 p q cap (Sp.fresh x c.size c.pages c.batch)) (hp : w.heap.size ≤ p) (hq : w.heap.size ≤ q) (ho5 : Only [] w1 w5) (hn : n = L.length + 1)
    (hrow : w5.ownsRow w1.heap.size 99 1 A' n ((ptrs L).take pos ++ [.pointer (some ⟨p, 0, none⟩)] ++ (ptrs L).drop pos)) :
    addE (spans L) c x = 0 ∧ QTurn w P bl (w5.setCell ⟨P, 3, none⟩ A') c (addM (spans L) c x) := by
  have E1 : addE (spans L) c x = 0 := by rw [addE, if_neg (fun h => h hf), spans_len, hcl]; rfl
  have E2 : addM (spans L) c x = (spans L).take (posTo (spans L) x L.length) ++ [Sp.fresh x c.size c.pages c.batch] ++ (spans L).drop (posTo (spans L) x L.length) := by rw [addM, E1, if_pos rfl, spans_len]
  refine ⟨E1, ?_⟩
  have hple : pos ≤ L.length := by rw [hpos]; exact posTo_le _ _ _
  obtain ⟨S1, S2⟩ := posTo_spec (M := spans L) (x := x) L.length (fun i j hij hj => by
    rw [sAt_spans, sAt_spans]
    have h1 := (hA.apart hij hj).ord
    have h2 := (hA.get (show i < L.length by omega)).1.good.p1
    omega)
  rw [← hpos] at S1 S2 E2
  have hCLS : ∀ j, j < L.length → _ := fun j hj => closeTo_false hcl j hj
  subst hn
  have hPlt := hA.blk.lt
  have ho : Only [] w w5 := ho1.trans ho5
  have hz1 := ho1.size
  have oS : Only [P] w5 (w5.setCell ⟨P, 3, none⟩ A') := (Only.refl [P] w5).setCell (.inl (by simp)) _
  have hob : ∀ b, A'.ownBlock = some b → w1.heap.size ≤ b := own_base hrow
  have hpl := hsp.ltp
  have hql := hsp.ltq
  have hspE := hsp.only ho5 (by simp) (by simp)
  have hspE5 : RefAt (w5.setCell ⟨P, 3, none⟩ A') p q cap (Sp.fresh x c.size c.pages c.batch) := hspE.only oS (by simp; omega) (by simp; omega)
  have hspL : ∀ y ∈ L, RefAt (w5.setCell ⟨P, 3, none⟩ A') y.p y.q y.cap y.s := fun y hy => by
    have hn := hA.ne y hy
    exact ((hA.sp y hy).1.only ho (by simp) (by simp)).only oS (by simpa using hn.1) (by simpa using hn.2.1)
  have hrow5 := own_only hrow oS (fun k hk hb => by
    simp at hb
    subst hb
    have := hob _ hk
    omega)
  have hyp : ∀ y ∈ L, y.p < w.heap.size ∧ y.q < w.heap.size := fun y hy => ⟨(hA.sp y hy).1.ltp, (hA.sp y hy).1.ltq⟩
  have hst := hA.insert (w' := w5.setCell ⟨P, 3, none⟩ A') (A' := A') (e := ⟨p, q, cap, Sp.fresh x c.size c.pages c.batch⟩) (k := pos) hple ((hA.blk.only ho (by simp)).set_ 3 A') (own_mono hrow5 (Nat.zero_le _)) hspL ⟨hspE5, rfl, rfl, rfl⟩
    (fun y hy => ⟨fun e => by have := hob _ e; have := hyp y hy; omega, fun e => by have := hob _ e; have := hyp y hy; omega⟩)
    ⟨by show p ≠ P; omega, by show q ≠ P; omega, fun e => by have := hob _ e; have h : p < w1.heap.size := hpl; dsimp only at this; omega, fun e => by have := hob _ e; have h : q < w1.heap.size := hql; dsimp only at this; omega⟩
    (fun e => by have := hob _ e; omega) (fun y hy => by have := hyp y hy; show y.p ≠ p ∧ y.p ≠ q ∧ y.q ≠ p ∧ y.q ≠ q; omega)
    (fun j hj => by
      have a1 := S1 j hj
      have a2 := hCLS j (by omega)
      rw [sAt_spans] at a1 a2
      show _ ≤ x
      omega)
    (fun j hj hjl => by
      have a1 := S2 j hj hjl
      have a2 := hCLS j hjl
      rw [sAt_spans] at a1 a2
      show x + _ ≤ _
      omega)
  have hoF : Only bl w (w5.setCell ⟨P, 3, none⟩ A') := (ho.of_nil (l := bl)).setCell (.inl hI.p) _
  refine ⟨hoF, p :: q :: (A'.ownBlock.toList ++ bl), ⟨⟨A', _, hst, ?_, ?_⟩, ?_⟩, ?_⟩
  · rw [E2]
    simp [spans, List.map_take, List.map_drop]
  · refine ⟨by simp [hI.p], fun b hb => by simp [hb], fun y hy => ?_⟩
    simp only [List.mem_append, List.mem_singleton] at hy
    rcases hy with (hy | rfl) | hy
    · have := hI.e y (List.mem_of_mem_take hy); simp [this.1, this.2]
    · simp
    · have := hI.e y (List.mem_of_mem_drop hy); simp [this.1, this.2]
  · intro b hb
    simp only [List.mem_cons, List.mem_append, Option.mem_toList] at hb
    rcases hb with rfl | rfl | hb | hb
    · exact hspE5.ltp
    · exact hspE5.ltq
    · exact own_lt hrow5 b hb
    · exact Nat.lt_of_lt_of_le (hlt b hb) hoF.size
  · intro b hb
    simp only [List.mem_cons, List.mem_append, Option.mem_toList] at hb
    rcases hb with rfl | rfl | hb | hb
    · exact .inr hp
    · exact .inr hq
    · exact .inr (by have := hob b hb; omega)
    · exact .inl hb

set_option maxRecDepth 100000 in
set_option maxHeartbeats 8000000 in
theorem qAdd_at {w : World} {P : Nat} {bl : List Nat} {c : Cl} {M : List Sp} (h : QSt w P bl c M) (x : Int) (hx : I64 x) :
    Calls Try.prog 58 #[.pointer (some ⟨P, 0, none⟩), .int .i64 x] w fun e w' => e = .returned (.int .i64 (addE M c x)) ∧ QTurn w P bl w' c (addM M c x) := by
  have CM := Lib.hid (qmade_st h)
  obtain ⟨⟨A, L, hA, rfl, hI⟩, hlt0⟩ := h
  have HA := Lib.hid hA
  have HI := Lib.hid hI
  have HLT := Lib.hid hlt0
  have CN := Lib.hid (rNew_any w x c.size c.pages c.batch)
  have z0 := hA.blk.cell_ 0 rfl
  have z1 := hA.blk.cell_ 1 rfl
  have z2 := hA.blk.cell_ 2 rfl
  clear hA hI hlt0
  by_cases hf : ¬ Sp.fits x c.size c.pages c.batch
  · have HF := Lib.hid hf
    have E1 : Hid (addE (spans L) c x = 1) := if_pos hf
    have E2 : Hid (addM (spans L) c x = spans L) := by show _ = _; rw [addM, E1.out, if_neg (by decide)]
    clear hf
    go_enter Try.func58, Try.ntmps58
    go_wp2_with (first | (go_at_call 56; with_reducible refine Still.use CM.out ?_))
    refine CN.out.mono ?_
    rintro e w1 ⟨_, h1, ho1⟩
    rw [h1 HF.out]
    clear h1
    go_wp2_with fail
    go_ret
    exact ⟨by rw [E1.out]; rfl, by rw [E2.out]; exact QTurn.same ⟨⟨A, L, HA.out, rfl, HI.out⟩, HLT.out⟩ ho1⟩
  replace hf := Decidable.not_not.1 hf
  obtain ⟨x1, x2, p1, p2⟩ := Sp.fits_range hf
  have HF := Lib.hid hf
  clear hf
  obtain ⟨ad, cp, rfl⟩ := HA.out.slice
  have hn := HA.out.len
  obtain ⟨N, hN⟩ : ∃ N, N = L.length := ⟨_, rfl⟩
  have HN := Lib.hid hN
  rw [← hN] at hn
  have Z3 := Lib.hid (fun W (ho : Only [] w W) => show W.cell? ⟨P, 3, none⟩ = some (.slice ad N cp) by rw [hN]; exact (HA.out.still ho).blk.cell_ 3 rfl)
  have Z1 := Lib.hid (fun W (ho : Only [] w W) => (HA.out.still ho).blk.cell_ 1 rfl)
  clear hN
  go_enter Try.func58, Try.ntmps58
  go_wp2_with (first | (go_at_call 56; with_reducible refine Still.use CM.out ?_))
  refine CN.out.mono ?_
  rintro e w1 ⟨h1, _, ho1⟩
  obtain ⟨p, q, cap, rfl, hsp, hp, hq⟩ := h1 HF.out
  have HSP := Lib.hid hsp
  have y3 := Z3.out w1 ho1
  clear h1 hsp CN z0 z1 z2
  go_wp2_with fail
  go_loopw [7, 8] (fun u t wr => ∃ k : Nat, k ≤ N ∧ u = .int .i64 (posTo (spans L) x k) ∧ t = .int .i64 k ∧ Only [] w1 wr ∧ closeTo (spans L) x c.pages k = false) (fun _ t _ => N - (intOf t).toNat)
  case atStart => exact ⟨0, Nat.zero_le _, rfl, rfl, Only.refl _ _, rfl⟩
  case round =>
    obtain ⟨k, hk, rfl, rfl, ho, hcl⟩ := hrel
    have HCL := Lib.hid hcl
    have hoW := ho1.trans ho
    have hr := HA.out.still hoW
    have z3 := Z3.out wr hoW
    have z1 := Z1.out wr hoW
    clear hcl
    by_cases hlt : k < N
    · have d1 : decide ((k : Int) < N) = true := decide_eq_true (by omega)
      have hkL : k < L.length := by rw [← HN.out]; exact hlt
      obtain ⟨g, cp', e1⟩ := hr.form (by omega)
      injection e1 with e1 _ e3
      subst e1 e3
      have q0 := own_ptrs hr.row rfl hkL
      have r3 := (hr.get hkL).1.c3
      obtain ⟨s1, s2⟩ : 0 ≤ (eAt L k).s.start ∧ (eAt L k).s.start ≤ 1024 := by
        have g := (hr.get hkL).1.good
        have := g.b1
        have := g.b2
        have := g.p1
        omega
      have HCS : Hid (closeTo (spans L) x c.pages (k + 1) = decide (max (eAt L k).s.start x - min (eAt L k).s.start x < c.pages)) := by show _ = _; rw [closeTo, HCL.out, sAt_spans]; rfl
      have HPS : Hid (posTo (spans L) x (k + 1) = if (eAt L k).s.start < x then k + 1 else posTo (spans L) x k) := by show _ = _; rw [posTo, sAt_spans]
      have hb := HI.out
      clear hr
      have HKL := Lib.hid hkL
      clear hkL
      generalize posTo (spans L) x k = u0 at *
      have HE1 := Lib.hid (fun j (hj : j < L.length) (h : max (eAt L j).s.start x - min (eAt L j).s.start x < c.pages) => (show addE (spans L) c x = 9 by rw [addE, if_neg (fun h => h HF.out), if_pos (closeTo_true (j := j) (by rw [spans_len]; exact hj) (by rw [sAt_spans]; exact h))]))
      have HE := Lib.hid (HE1.out k HKL.out)
      clear HE1 hb
      generalize (eAt L k).s.start = st at *
      generalize (eAt L k).p = pp at *
      generalize c.pages = pg at *
      have w1' : IntKind.i64.wrap (st + pg) = st + pg := IntWalk.i64_in _ (by omega)
      have w2' : IntKind.i64.wrap (x + pg) = x + pg := IntWalk.i64_in _ (by omega)
      by_cases hc1 : x < st + pg
      · have d2 : decide (x < st + pg) = true := decide_eq_true hc1
        by_cases hc2 : st < x + pg
        · have d3 : decide (st < x + pg) = true := decide_eq_true hc2
          have E1 := Lib.hid (HE.out (by omega))
          have E2 : Hid (addM (spans L) c x = spans L) := by show _ = _; rw [addM, E1.out, if_neg (by decide)]
          clear hc1 hc2
          go_wp2_with fail
          go_region
          go_wp2_with fail
          go_ret
          exact ⟨by rw [E1.out]; rfl, by rw [E2.out]; exact QTurn.same ⟨⟨_, L, HA.out, rfl, HI.out⟩, HLT.out⟩ (hoW.trans (Only.of_dr (by repeat (first | exact Dr.refl _ | refine Dr.drewN ?_ _ | refine Dr.drew ?_))))⟩
        · have d3 : decide (st < x + pg) = false := decide_eq_false hc2
          have HC2 : Hid (closeTo (spans L) x pg (k + 1) = false) := by show _ = _; rw [HCS.out]; exact decide_eq_false (by omega)
          by_cases hc3 : st < x
          · have d4 : decide (st < x) = true := decide_eq_true hc3
            have HP2 : Hid (posTo (spans L) x (k + 1) = k + 1) := by show _ = _; rw [HPS.out, if_pos hc3]
            clear hc1 hc2 hc3
            go_wp2_with fail
            go_region
            go_wp2_with fail
            go_roundw
            case rel => exact ⟨k + 1, by omega, by rw [HP2.out]; go_num, by go_num, ho.trans (Only.of_dr (by repeat (first | exact Dr.refl _ | refine Dr.drewN ?_ _ | refine Dr.drew ?_))), HC2.out⟩
            case measure => simp [intOf]; omega
          · have d4 : decide (st < x) = false := decide_eq_false hc3
            have HP2 : Hid (posTo (spans L) x (k + 1) = u0) := by show _ = _; rw [HPS.out, if_neg hc3]
            clear hc1 hc2 hc3
            go_wp2_with fail
            go_region
            go_wp2_with fail
            go_roundw
            case rel => exact ⟨k + 1, by omega, by rw [HP2.out], by go_num, ho.trans (Only.of_dr (by repeat (first | exact Dr.refl _ | refine Dr.drewN ?_ _ | refine Dr.drew ?_))), HC2.out⟩
            case measure => simp [intOf]; omega
      · have d2 : decide (x < st + pg) = false := decide_eq_false hc1
        have HC2 : Hid (closeTo (spans L) x pg (k + 1) = false) := by show _ = _; rw [HCS.out]; exact decide_eq_false (by omega)
        by_cases hc3 : st < x
        · have d4 : decide (st < x) = true := decide_eq_true hc3
          have HP2 : Hid (posTo (spans L) x (k + 1) = k + 1) := by show _ = _; rw [HPS.out, if_pos hc3]
          clear hc1 hc3
          go_wp2_with fail
          go_region
          go_wp2_with fail
          go_roundw
          case rel => exact ⟨k + 1, by omega, by rw [HP2.out]; go_num, by go_num, ho.trans (Only.of_dr (by repeat (first | exact Dr.refl _ | refine Dr.drewN ?_ _ | refine Dr.drew ?_))), HC2.out⟩
          case measure => simp [intOf]; omega
        · have d4 : decide (st < x) = false := decide_eq_false hc3
          have HP2 : Hid (posTo (spans L) x (k + 1) = u0) := by show _ = _; rw [HPS.out, if_neg hc3]
          clear hc1 hc3
          go_wp2_with fail
          go_region
          go_wp2_with fail
          go_roundw
          case rel => exact ⟨k + 1, by omega, by rw [HP2.out], by go_num, ho.trans (Only.of_dr (by repeat (first | exact Dr.refl _ | refine Dr.drewN ?_ _ | refine Dr.drew ?_))), HC2.out⟩
          case measure => simp [intOf]; omega
    · have e : k = N := by omega
      subst e
      have d1 : decide ((k : Int) < k) = false := decide_eq_false (by omega)
      have hple := posTo_le (spans L) x k
      have hcp : k ≤ cp := by
        rcases hr.row.2 with ⟨h1, h2⟩ | ⟨g, cap, cur, h1, hb, hg, h3, h4, h5, h6⟩
        · rw [HN.out]; omega
        · injection h1 with e1 e2 e3
          rw [HN.out]; omega
      have HPA := Lib.hid (fun W (h1 : Only [] w W) => (HA.out.still h1).part (i := 0) (j := posTo (spans L) x k) (Nat.zero_le _) (by rw [← HN.out]; exact hple))
      have HPB := Lib.hid (fun W (h1 : Only [] w W) => (HA.out.still h1).part (i := posTo (spans L) x k) (j := L.length) (by rw [← HN.out]; exact hple) (Nat.le_refl _))
      obtain ⟨pos, hpos⟩ : ∃ pos, pos = posTo (spans L) x k := ⟨_, rfl⟩
      have HPOS : Hid (pos = posTo (spans L) x L.length) := by show _ = _; rw [hpos, HN.out]
      rw [← hpos] at hple
      simp only [← hpos] at HPA HPB ⊢
      rw [← HN.out] at HPB
      obtain ⟨j0, hj, hy0, hy1, hy2⟩ := info_parts info_rp
      have HO := Lib.hid ho
      have HOW := Lib.hid hoW
      have hz1 := ho.size
      clear hr hpos
      go_wp2_with (first
        | (refine wpList_slice_to rfl 95 _ _ rfl rfl j0 hj hy1 _ _ _ _ rfl rfl (by omega) ?_; intro v hv; have hpa := HPA.out _ HOW.out; rw [← hv] at hpa; clear hv)
        | (at_builtin; (refine wpList_append_part rfl _ _ 95 rfl w1.heap.size 99 j0 (.pointer none) 8 Try.underlying95 hj hy0 hy1 hy2 rfl _ 0 [] rfl (World.ownsRow_nil _ _ _ _) _ _ _ rfl hpa (by unfold maxLen; omega) (by omega) hz1 ?_); intro v3 w3 hown3 hg3; simp only [Nat.zero_add, List.nil_append, Nat.sub_zero, List.drop_zero] at hown3; have ho3 : Only [] w1 w3 := HO.out.grown hg3 (fun b hb => by cases hb); have hz3 := ho3.size; clear hg3 hpa)
        | (at_builtin; (refine wpList_append_part rfl _ _ 95 rfl w1.heap.size 99 j0 (.pointer none) 8 Try.underlying95 hj hy0 hy1 hy2 rfl _ pos _ rfl (hown3.alloc _) _ 1 [.pointer (some ⟨p, 0, none⟩)] rfl (.inr ⟨_, _, rfl, rfl, cell_new1 w3 _ _, by simp [Value.oneCell']⟩) (by unfold maxLen; omega) (by omega) (by rw [World.size_alloc]; omega) ?_); intro v4 w4 hown4 hg4; have ho4 : Only [] w1 w4 := (ho3.alloc _).grown hg4 (fun b hb => .inr (own_base hown3 b hb)); have hz4 := ho4.size; have y4 := Z3.out w4 (ho1.trans ho4); clear hg4 hown3)
        | (refine wpList_slice_from rfl 95 _ _ rfl rfl j0 hj hy1 _ _ _ _ rfl rfl hple ?_; intro v hv; have hpb := HPB.out w4 (ho1.trans ho4); rw [← hv] at hpb; clear hv)
        | (at_builtin; (refine wpList_append_part rfl _ _ 95 rfl w1.heap.size 99 j0 (.pointer none) 8 Try.underlying95 hj hy0 hy1 hy2 rfl _ (pos + 1) _ rfl hown4 _ _ _ rfl hpb (by unfold maxLen; omega) (by omega) hz4 ?_); intro v5 w5 hown5 hg5; have ho5 : Only [] w1 w5 := ho4.grown hg5 (fun b hb => .inr (own_base hown4 b hb)); have y5 := Z3.out w5 (ho1.trans ho5); have yf := (HA.out.still (ho1.trans ho5)).blk.frozen 3; clear hg5 hown4; obtain ⟨A5, c5, rfl, _⟩ := own_slice hown5))
      go_ret
      obtain ⟨E1, E2⟩ := qAdd_end HA.out HI.out HLT.out HF.out (by rw [← HN.out]; exact HCL.out) HPOS.out ho1 HSP.out hp hq ho5 (n := pos + 1 + (k - pos)) (by rw [← HN.out]; omega) (by rw [show (ptrs L).take k = ptrs L from List.take_of_length_le (by rw [ptrs_len, HN.out]; exact Nat.le_refl _)] at hown5; exact hown5)
      exact ⟨by rw [E1]; rfl, E2⟩
end Go.Proofs.Ytlmjelcnldlagaa
