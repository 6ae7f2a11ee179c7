/- Contract of put. -/
import Derived.Test.YtmalmkccgjeboaaDoorVH
import Derived.Deep.OwnRows
set_option linter.unusedVariables false
set_option linter.unusedSimpArgs false
namespace Go.Proofs.YtmalmkccgjeboaaDoor
open Go.RowKit
open Go.ChangeMaps Go.Maps

theorem SpM.putW_st (m : SpM) (j v i : Int) : (m.putW j v).st i = if i = j / 32 then 2 else m.st i := rfl
theorem SpM.putW_h (m : SpM) (j v i : Int) : (m.putW j v).h i = if i = j then v else m.h i := rfl

theorem SpM.putW_good {m : SpM} (hg : m.good) {j v : Int} (h0 : 0 ≤ j) (h1 : j < 32 * m.n) (hv : I64 v) : (m.putW j v).good := by
  have hd : (m.putW j v).dirty = cntTo (fun i => if i = j / 32 then 2 else m.st i) 2 m.n := rfl
  refine ⟨hg.n1, hg.n2, fun i => ?_, fun i hi => ?_, fun i => ?_, ?_, ?_⟩
  · rw [putW_st]
    split
    · omega
    · exact hg.s1 i
  · rw [putW_st] at hi
    rw [putW_h]
    by_cases e : i / 32 = j / 32
    · rw [if_pos e] at hi; exact absurd rfl hi
    · rw [if_neg e] at hi
      rw [if_neg (by intro e'; rw [e'] at e; exact e rfl)]
      exact hg.h0 i hi
  · rw [putW_h]
    split
    · exact hv
    · exact hg.h1 i
  · rw [hd]
    show _ ≤ (if m.st (j / 32) = 2 then m.pk else max m.pk (cntTo (fun i => if i = j / 32 then 2 else m.st i) 2 m.n))
    split
    · rename_i e
      have := cntTo_congr (st := fun i => if i = j / 32 then 2 else m.st i) (st' := m.st) (v := 2) m.n (fun i _ => by
        by_cases e' : (i : Int) = j / 32
        · rw [if_pos e', e', e]
        · rw [if_neg e'])
      rw [this]
      exact hg.p0
    · omega
  · show (if m.st (j / 32) = 2 then m.pk else max m.pk (cntTo (fun i => if i = j / 32 then 2 else m.st i) 2 m.n)) ≤ 1024
    have := cntTo_le (fun i => if i = j / 32 then 2 else m.st i) 2 m.n
    have := hg.n2
    have := hg.p1
    split <;> omega

/-- A word of a dirty page is written. -/
theorem Parts.put2 {w : World} {p : Nat} {l : List Nat} {m : SpM} {gp cap gm : Nat} {G : Int → Option Nat} (h : Parts w p l m gp cap gm G) {j v : Int} (h0 : 0 ≤ j) (h1 : j < 32 * m.n) (hst : m.st (j / 32) = 2) {g : Nat} (hG : G (j / 32) = some g) :
    Parts (w.setCell ⟨g, (j % 32).toNat, none⟩ (.int .i64 v)) p l (m.putW j v) gp cap gm G := by
  obtain ⟨a1, a2, a3, a4, a5, a6, b1, b2, b3, b4, b5, b6, b7⟩ := h
  obtain ⟨_, g1, g2, g3, g4, g5⟩ := b5 _ _ hG
  have hs : (m.putW j v).st = m.st := by funext i; rw [SpM.putW_st]; split; rename_i e; rw [e, hst]; rfl
  have hpk : (m.putW j v).pk = m.pk := if_pos hst
  have hd : (m.putW j v).dirty = m.dirty := by unfold SpM.dirty; rw [hs]; rfl
  have ho : Only [g] w (w.setCell ⟨g, (j % 32).toNat, none⟩ (.int .i64 v)) := (Only.refl [g] w).setCell (.inl (by simp)) _
  refine ⟨a1, a2, a3, a4, a5, a6, ?_, b2, ?_, ?_, fun i g' hi => ?_, fun i c1 c2 c3 => b6 i c1 c2 (by rw [hs] at c3; exact c3), b7⟩
  · rw [hpk]; exact b1.only ho (by simpa using g2.symm)
  · rw [hs]; exact b3.only ho (by simpa using g3.symm)
  · rw [hd]; exact b4.only ho (by simpa using g4.symm)
  · obtain ⟨c1, c2, c3, c4, c5, c6⟩ := b5 i g' hi
    refine ⟨⟨c1.1, c1.2.1, by rw [hs]; exact c1.2.2⟩, c2, c3, c4, c5, ?_⟩
    by_cases e : g' = g
    · subst e
      have e2 := b7 _ _ _ hi hG
      subst e2
      refine (c6.set_ _ _).congr fun k hk => ?_
      rw [SpM.putW_h]
      by_cases e3 : k = (j % 32).toNat
      · rw [if_pos e3, if_pos (by omega)]
      · rw [if_neg e3, if_neg (by omega)]
    · refine (c6.only ho (by simpa using e)).congr fun k hk => ?_
      rw [SpM.putW_h, if_neg]
      intro e3
      have : i = j / 32 := by omega
      subst this
      rw [hG] at hi
      injection hi with hi
      exact e hi.symm

/-- A page becomes dirty. -/
theorem Parts.put1 {w w' : World} {p : Nat} {l : List Nat} {m : SpM} {gp cap gm : Nat} {G : Int → Option Nat} (h : Parts w p l m gp cap gm G) (hlt : ∀ b ∈ l, b < w.heap.size) {j v : Int} (h0 : 0 ≤ j) (h1 : j < 32 * m.n) (hst : m.st (j / 32) ≠ 2)
    (hh : ∀ i, m.st (i / 32) ≠ 2 → m.h i = 0) {g : Nat} (hg : w.heap.size ≤ g) (ho : Only [p, gp, gm] w w') (hb : Blk w' p 58 #[.slice (some ⟨gp, 0, none⟩) m.n cap, .map (some gm), .int .i64 (max m.pk ((m.dirty : Int) + 1))])
    (hr : Row w' gp (2 * m.n) (pcell (m.putW j v).st)) (hD : Dict w' gm (fun i => if i = j / 32 then some g else G i) (m.dirty + 1)) (hw : Row w' g 32 (fun k => if k = (j % 32).toNat then .int .i64 v else .int .i64 0)) :
    Parts w' p (g :: l) (m.putW j v) gp cap gm (fun i => if i = j / 32 then some g else G i) := by
  obtain ⟨a1, a2, a3, a4, a5, a6, b1, b2, b3, b4, b5, b6, b7⟩ := h
  have hne : ∀ b ∈ l, b ≠ g := fun b hb => by have := hlt b hb; omega
  have hd : (m.putW j v).dirty = m.dirty + 1 := by
    have := cntTo_set m.st 2 2 (j / 32).toNat m.n (by omega)
    rw [show (((j / 32).toNat : Nat) : Int) = j / 32 by omega] at this
    rw [if_neg hst, if_pos rfl] at this
    exact this
  have hpk : (m.putW j v).pk = max m.pk ((m.dirty : Int) + 1) := by
    have e : ((m.dirty : Int) + 1) = ((m.putW j v).dirty : Nat) := by omega
    rw [e]
    exact if_neg hst
  refine ⟨.tail _ a1, .tail _ a2, .tail _ a3, a4, a5, a6, by rw [hpk]; exact hb, b2, hr, by rw [hd]; exact hD, fun i g' hi => ?_, fun i c1 c2 c3 => ?_, fun i i' g' e1 e2 => ?_⟩
  · by_cases e : i = j / 32
    · rw [if_pos e] at hi
      injection hi with hi
      subst hi e
      refine ⟨⟨by omega, by show j / 32 < (m.n : Int); omega, by rw [SpM.putW_st, if_pos rfl]⟩, .head _, fun e => hne _ a1 e.symm, fun e => hne _ a2 e.symm, fun e => hne _ a3 e.symm, hw.congr fun k hk => ?_⟩
      rw [SpM.putW_h]
      by_cases e3 : k = (j % 32).toNat
      · rw [if_pos e3, if_pos (by omega)]
      · rw [if_neg e3, if_neg (by omega), hh _ (by rw [show (32 * (j / 32) + (k : Int)) / 32 = j / 32 by omega]; exact hst)]
    · rw [if_neg e] at hi
      obtain ⟨c1, c2, c3, c4, c5, c6⟩ := b5 i g' hi
      refine ⟨⟨c1.1, c1.2.1, by rw [SpM.putW_st, if_neg e]; exact c1.2.2⟩, .tail _ c2, c3, c4, c5, (c6.only ho (by simp; exact ⟨c3, c4, c5⟩)).congr fun k hk => ?_⟩
      rw [SpM.putW_h, if_neg (by omega)]
  · by_cases e : i = j / 32
    · exact ⟨g, if_pos e⟩
    · rw [SpM.putW_st, if_neg e] at c3
      obtain ⟨g', hg'⟩ := b6 i c1 c2 c3
      exact ⟨g', by rw [if_neg e]; exact hg'⟩
  · by_cases e : i = j / 32
    · rw [if_pos e] at e1
      injection e1 with e1
      by_cases e' : i' = j / 32
      · rw [e, e']
      · rw [if_neg e'] at e2
        exact absurd e1.symm (hne _ (b5 _ _ e2).2.1)
    · rw [if_neg e] at e1
      by_cases e' : i' = j / 32
      · rw [if_pos e'] at e2
        injection e2 with e2
        exact absurd e2.symm (hne _ (b5 _ _ e1).2.1)
      · rw [if_neg e'] at e2
        exact b7 _ _ _ e1 e2

theorem made_at {n k : Nat} (hk : k < n) : (madeCells #[Value.int .i64 0] n)[k]? = some (.int .i64 0) := by
  unfold madeCells
  rw [Array.getElem?_map, Array.getElem?_eq_getElem (by simpa using hk)]
  simp [Nat.mod_one]

theorem info_int : (Tryd.prog.info? 3).map (fun i => (i.zero, i.size, i.bytes)) = some (some (.int .i64 0), 1, 8) := by kernel_rfl

set_option maxRecDepth 100000 in
set_option maxHeartbeats 4000000 in
theorem put_any {w : World} (hE : Env w) {p : Nat} {l : List Nat} {m : SpM} (h : SpaceAt w p l m) (j v : Int) (h0 : 0 ≤ j) (h1 : j < 32 * m.n) (hv : I64 v) :
    Calls Tryd.prog 38 #[.pointer (some ⟨p, 0, none⟩), .int .i64 j, .int .i64 v] w fun e w' => e = .returned (.tuple #[]) ∧ Turn w p l w' (m.putW j v) := by
  have HGD := Lib.hid (SpM.putW_good h.good h0 h1 hv)
  obtain ⟨hg, h3, h4, gp, cap, gm, G, hp⟩ := h
  have HP := Lib.hid hp
  have HG := Lib.hid hg
  have hn2 := hg.n2
  have t1 : j.tdiv 32 = j / 32 := Int.tdiv_eq_ediv_of_nonneg h0
  obtain ⟨i, hi⟩ : ∃ i : Nat, j / 32 = i := ⟨(j / 32).toNat, by omega⟩
  have hin : i < m.n := by omega
  have hcap := hp.cap_
  have q3 : j ≤ 32768 := by omega
  have z0 := cell_after (hp.blk.cell_ 0 rfl)
  have x0 := hp.row.cell (k := i * 2) (by omega)
  have x1 := hp.row.cell (k := i * 2 + 1) (by omega)
  unfold pcell at x0 x1
  rw [if_pos (by omega), show i * 2 / 2 = i by omega] at x0
  rw [if_neg (by omega), show (i * 2 + 1) / 2 = i by omega] at x1
  have u0 := cell_after hE.d0
  have u1 := cell_after hE.d1
  have HE := Lib.hid hE
  rw [hi] at t1
  by_cases hst : m.st i = 2
  · rw [show (m.st i != 0) = true by rw [hst]; rfl] at x0
    rw [show (m.st i == 2) = true by rw [hst]; rfl] at x1
    have X0 := cell_after x0
    have X1 := cell_after x1
    have HST := Lib.hid hst
    have H3 := Lib.hid h3
    have H4 := Lib.hid h4
    clear hp hg hE hst x0 x1 h3 h4
    go_enter Tryd.func38, Tryd.ntmps38
    go_wp2_with fail
    refine wp_region_grew (by kernel_rfl) (by kernel_rfl) ?_
    repeat (go_big_quiet_step (fail))
    refine wpQuiet_nil ?_
    rintro w1 ⟨⟨_, ho1⟩, rfl⟩
    clear z0 u0 u1 X0 X1
    have hp1 := HP.out.only ho1 (by simp)
    have z0 := hp1.blk.cell_ 0 rfl
    have z1 := hp1.blk.cell_ 1 rfl
    obtain ⟨g, hG⟩ := hp1.all i (by omega) (by omega) HST.out
    obtain ⟨_, g1, g2, g3, g4, g5⟩ := hp1.words _ _ hG
    rcases hp1.dict.look (k := (i : Int)) (by unfold I64; omega) false with ⟨g', cp', hG', _, hrun⟩ | ⟨hG', hrun⟩
    · rw [hG] at hG'
      injection hG' with hG'
      subst hG'
      rw [if_neg (by simp)] at hrun
      have y0 := g5.cell (k := (j % 32).toNat) (by omega)
      have fy := g5.frozen (j % 32).toNat
      have HFIN := Lib.hid (hp1.put2 (v := v) h0 h1 (by rw [hi]; exact HST.out) (by rw [hi]; exact hG))
      clear hp1 hG g5
      go_wp2_with fail
      go_end0
      have ho2 : Only l w (w1.setCell ⟨g, (j % 32).toNat, none⟩ (.int .i64 v)) := ho1.of_nil.setCell (.inl g1) _
      exact ⟨rfl, ho2, l, ⟨HGD.out, H3.out, fun b hb => Nat.lt_of_lt_of_le (H4.out b hb) ho2.size, gp, cap, gm, G, HFIN.out⟩, fun b hb => .inl hb⟩
    · rw [hG] at hG'; cases hG'
  · have hxy : ¬ ((m.st i != 0) = true ∧ (m.st i == 2) = true) := fun h => hst (beq_iff_eq.1 h.2)
    have hy : (m.st i == 2) = false := beq_eq_false_iff_ne.2 hst
    rw [hy] at x1
    have X0 := cell_after x0
    have X1 := cell_after x1
    have HST := Lib.hid hst
    have H3 := Lib.hid h3
    have H4 := Lib.hid h4
    clear hp hg hE hst x0 x1 h3 h4 hxy hy
    generalize (m.st i != 0) = x at *
    cases x
    all_goals
      go_enter Tryd.func38, Tryd.ntmps38
      go_wp2_with fail
      refine wp_region_grew (by kernel_rfl) (by kernel_rfl) ?_
      repeat (go_big_quiet_step (fail))
      refine wpQuiet_nil ?_
      rintro w1 ⟨⟨_, ho1⟩, rfl⟩
      clear z0 u0 u1 X0 X1
      have hp1 := HP.out.only ho1 (by simp)
      have hE1 := HE.out.only ho1 (by simp)
      have z0 := hp1.blk.cell_ 0 rfl
      have x0 := hp1.row.cell (k := i * 2) (by omega)
      have x1 := hp1.row.cell (k := i * 2 + 1) (by omega)
      have f0 := hp1.row.frozen (i * 2)
      have f1 := hp1.row.frozen (i * 2 + 1)
      have u0 := hE1.d0
      have u1 := hE1.d1
      generalize pcell m.st (i * 2) = Y0 at x0
      generalize pcell m.st (i * 2 + 1) = Y1 at x1
      have HROW := Lib.hid (hp1.row.page (st' := (m.putW j v).st) i true true (by rw [SpM.putW_st, if_pos hi.symm]; rfl) (by rw [SpM.putW_st, if_pos hi.symm]; rfl) (fun k hk => by rw [SpM.putW_st, if_neg (by omega)]))
      have HP1 := Lib.hid hp1
      clear hp1 hE1
      go_wp2_with fail
      go_region
      have ho2 : Only [gp] w1 ((w1.setCell ⟨gp, i * 2, none⟩ (.bool true)).setCell ⟨gp, i * 2 + 1, none⟩ (.bool true)).drew := (((Only.refl [gp] w1).setCell (p := ⟨gp, i * 2, none⟩) (.inl (by simp)) _).setCell (p := ⟨gp, i * 2 + 1, none⟩) (.inl (by simp)) _).drew
      have hrow : Row ((w1.setCell ⟨gp, i * 2, none⟩ (.bool true)).setCell ⟨gp, i * 2 + 1, none⟩ (.bool true)).drew gp (2 * m.n) (pcell (m.putW j v).st) := HROW.out
      generalize ((w1.setCell ⟨gp, i * 2, none⟩ (.bool true)).setCell ⟨gp, i * 2 + 1, none⟩ (.bool true)).drew = w2 at *
      clear z0 x0 x1 f0 f1 u0 u1 HROW
      have hb2 := HP1.out.blk.only ho2 (by simpa using HP1.out.pg)
      have z1 := hb2.cell_ 1 rfl
      have hD2 := HP1.out.dict.only ho2 (by simpa using HP1.out.gg.symm)
      have hGn : G i = none := by
        cases hG : G i with
        | none => rfl
        | some g => exact absurd (HP1.out.words _ _ hG).1.2.2 HST.out
      have hmk : ∀ W : World, (Instr.makeSlice 40 (.int .i64 32) (.int .i64 32)).run Tryd.prog W = .ok (.slice (some ⟨W.heap.size, 0, none⟩) 32 32) (W.alloc (.cells (madeCells #[.int .i64 0] 32) 3)) := fun W => Go.run_make_row' 40 3 (.int .i64 0) 8 Tryd.underlying40 info_int rfl .i64 .i64 32 (by decide) (by decide) W
      have hoa := ((Only.refl [] w2).alloc (.cells (madeCells #[.int .i64 0] 32) 3)).drew
      have z1a := (hoa.cell (World.block_lt_of_cell? _ _ z1) (by simp)).trans z1
      obtain ⟨ob, hup, hD3⟩ := (hD2.only hoa (by simp)).put (k := (i : Int)) (by unfold I64; omega) hGn w2.heap.size 32 (Nat.le_refl _)
      have HD3 := Lib.hid hD3
      have hw := (Blk.new w2 3 (madeCells #[.int .i64 0] 32)).drew
      have ho3 : Only [gm] (w2.alloc (.cells (madeCells #[.int .i64 0] 32) 3)).drew (setBlock (w2.alloc (.cells (madeCells #[.int .i64 0] 32) 3)).drew gm ob) := by
        obtain ⟨es, clk, hbm, _⟩ := hD2.only hoa (by simp)
        exact only_setBlock (Only.refl _ _) hbm (by simp)
      clear hD3 hD2
      go_wp2_with fail
      go_region
      clear z1 z1a hup hmk
      generalize (setBlock (w2.alloc (.cells (madeCells #[.int .i64 0] 32) 3)).drew gm ob) = w3 at *
      generalize (w2.alloc (.cells (madeCells #[.int .i64 0] 32) 3)).drew = wa at *
      have hb3 := (hb2.only hoa (by simp)).only ho3 (by simpa using HP1.out.pm)
      have z1 := hb3.cell_ 1 rfl
      have z2 := hb3.cell_ 2 rfl
      have fz := hb3.frozen 2
      have hlen := Dict.len (w := w3.drew) HD3.out 3
      have hmax : (if m.pk < (m.dirty : Int) + 1 then (m.dirty : Int) + 1 else m.pk) = max m.pk ((m.dirty : Int) + 1) := by split <;> omega
      go_wp2_with fail
      go_region
      clear z1 z2 fz hlen hmax
      have ho4 : Only [p] w3 (w3.setCell ⟨p, 2, none⟩ (.int .i64 (max m.pk ((m.dirty : Int) + 1)))).drew := ((Only.refl [p] w3).setCell (p := ⟨p, 2, none⟩) (.inl (by simp)) _).drew
      have hb4 : Blk (w3.setCell ⟨p, 2, none⟩ (.int .i64 (max m.pk ((m.dirty : Int) + 1)))).drew p 58 #[.slice (some ⟨gp, 0, none⟩) m.n cap, .map (some gm), .int .i64 (max m.pk ((m.dirty : Int) + 1))] := hb3.set_ 2 _
      generalize (w3.setCell ⟨p, 2, none⟩ (.int .i64 (max m.pk ((m.dirty : Int) + 1)))).drew = w4 at *
      have hpg := HP1.out.pg
      have hpm := HP1.out.pm
      have hgg := HP1.out.gg
      have hlp := HP1.out.pl
      have hlg := HP1.out.gl
      have hlm := HP1.out.ml
      have hs1 := ho1.size
      have hs2 := ho2.size
      have hsa := hoa.size
      have hs3 := ho3.size
      have hbp := H4.out _ hlp
      have hbg := H4.out _ hlg
      have hbm := H4.out _ hlm
      have hD4 := HD3.out.only ho4 (by simpa using hpm.symm)
      have hw3 := hw.only ho3 (by simp; omega)
      have hw4 := hw3.only ho4 (by simp; omega)
      have hr4 := ((hrow.only hoa (by simp)).only ho3 (by simpa using hgg)).only ho4 (by simpa using hpg.symm)
      have z1 := hb4.cell_ 1 rfl
      rcases hD4.look (k := (i : Int)) (by unfold I64; omega) false with ⟨g', cp', hG', _, hrun⟩ | ⟨hG', hrun⟩
      · rw [if_pos rfl] at hG'
        injection hG' with hG'
        subst hG'
        rw [if_neg (by simp)] at hrun
        have hlt32 : (j % 32).toNat < 32 := by omega
        have hmc : ∀ k, k < 32 → (madeCells #[Value.int .i64 0] 32)[k]? = some (.int .i64 0) := fun k hk => made_at hk
        have y0 := hw4.cell_ (j % 32).toNat (hmc _ hlt32)
        have fy := hw4.frozen (j % 32).toNat
        go_wp2_with fail
        go_end0
        have ho5 : Only [p, gp, gm] w1 (w4.setCell ⟨w2.heap.size, (j % 32).toNat, none⟩ (.int .i64 v)) := ((((ho2.mono (by simp)).trans hoa.of_nil).trans (ho3.mono (by simp))).trans (ho4.mono (by simp))).setCell (.inr hs2) _
        have hw5 : Row (w4.setCell ⟨w2.heap.size, (j % 32).toNat, none⟩ (.int .i64 v)) w2.heap.size 32 (fun k => if k = (j % 32).toNat then .int .i64 v else .int .i64 0) := by
          have hw4' : Row w4 w2.heap.size 32 (fun _ => .int .i64 0) := ⟨_, _, hw4, by rw [size_madeCells]; exact Nat.le_refl _, hmc⟩
          exact (hw4'.set_ (j % 32).toNat (.int .i64 v))
        have hog : Only [w2.heap.size] w4 (w4.setCell ⟨w2.heap.size, (j % 32).toNat, none⟩ (.int .i64 v)) := (Only.refl _ w4).setCell (.inl (by simp)) _
        have hfin := HP1.out.put1 (v := v) (fun b hb => Nat.lt_of_lt_of_le (H4.out b hb) hs1) h0 h1 (by rw [hi]; exact HST.out) HG.out.h0 (g := w2.heap.size) hs2 ho5 (hb4.only hog (by simp; omega)) (hr4.only hog (by simp; omega)) (by rw [hi]; exact hD4.only hog (by simp; omega)) hw5
        have hol : Only l w (w4.setCell ⟨w2.heap.size, (j % 32).toNat, none⟩ (.int .i64 v)) := ho1.of_nil.trans (ho5.mono (by simp; exact ⟨hlp, hlg, hlm⟩))
        have hsz := ho5.size
        have hwl := hw4.lt
        refine ⟨rfl, hol, w2.heap.size :: l, ⟨HGD.out, ?_, ?_, gp, cap, gm, _, hfin⟩, ?_⟩
        · intro b hb
          rcases List.mem_cons.1 hb with rfl | hb
          · have := H3.out _ hlp; omega
          · exact H3.out b hb
        · intro b hb
          rcases List.mem_cons.1 hb with rfl | hb
          · exact Nat.lt_of_lt_of_le hwl hog.size
          · exact Nat.lt_of_lt_of_le (H4.out b hb) hol.size
        · intro b hb
          rcases List.mem_cons.1 hb with rfl | hb
          · exact .inr (by omega)
          · exact .inl hb
      · rw [if_pos rfl] at hG'; cases hG'
end Go.Proofs.YtmalmkccgjeboaaDoor
