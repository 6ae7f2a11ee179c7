/- Contract of Clone. -/
import Derived.Test.YtmalmkccgjeboaaDoorVQ
set_option linter.unusedVariables false
set_option linter.unusedSimpArgs false
namespace Go.Proofs.YtmalmkccgjeboaaDoor
open Go.RowKit
open Go.ChangeMaps Go.Maps

theorem Dict.put_o {w : World} {b c : Nat} {G : Int → Option Nat} (h : Dict w b G c) {k : Int} (hk : I64 k) (hG : G k = none) (g cp : Nat) (hcp : 32 ≤ cp) :
    ∃ o, (Instr.mapUpdate 56 (.map (some b)) (.int .i64 k) (sl g cp)).run Tryd.prog w = .ok () (setBlock w b o) ∧ Dict (setBlock w b o) b (fun j => if j = k then some g else G j) (c + 1) ∧ Only [b] w (setBlock w b o) := by
  obtain ⟨o, h1, h2⟩ := h.put hk hG g cp hcp
  obtain ⟨es, clk, hbm, _⟩ := id h
  exact ⟨o, h1, h2, only_setBlock (Only.refl _ _) hbm (by simp)⟩

theorem wpList_next_dict {w : World} {ops : Array Oper} {rest : List Oper} {o : Oper} {a : Act} {Q : Exit → Act → World → Prop} (hg : o.guard = none) (it : Operand) (hop : o.op = Op.next it false) (r bm clock : Nat) (G : Int → Option Nat) (seen : Array Nat) (es : Array MapEntry)
    (hit : a.eval it = .pointer (some ⟨r, 0, none⟩)) (hr : w.heap[r]? = some (.mapIter (some bm) clock seen clock)) (hb : w.heap[bm]? = some (.map es clock))
    (h4 : ∀ x ∈ es.toList, ∃ k g cp, I64 k ∧ x.key = .int .i64 k ∧ (32 ≤ cp ∧ x.val = sl g cp) ∧ G k = some g) (h6 : ∀ x ∈ es.toList, x.born < clock) (h7 : (es.toList.map (·.born)).Nodup) (hne : r ≠ bm)
    (hDone : (leftOf es seen).size = 0 → wpList Tryd.prog ops Q rest (a.put o.dst (.tuple #[.bool false])) w)
    (hMore : ∀ (e : MapEntry) (k : Int) (g cp : Nat) (w' : World), e ∈ (leftOf es seen).toList → e.key = .int .i64 k → I64 k → 32 ≤ cp → G k = some g → Only [r] w w' → w'.heap.size = w.heap.size → w'.heap[r]? = some (.mapIter (some bm) clock (seen.push e.born) clock) →
      (Instr.entry (.pointer (some ⟨r, 0, none⟩))).run Tryd.prog w' = .ok (.tuple #[.int .i64 k, sl g cp]) w' → wpList Tryd.prog ops Q rest (a.put o.dst (.tuple #[.bool true, .int .i64 k, sl g cp])) w') :
    wpList Tryd.prog ops Q (o :: rest) a w := by
  refine wpList_plain hg fun K' hK' => ?_
  unfold Oper.wp
  rcases run_next_at (P := Tryd.prog) w o.type r bm clock clock seen es clock hr hb h6 (Nat.le_refl _) with ⟨h0, hrun⟩ | ⟨e, he, w1, hw1, hrun⟩
  · simp [execOp, hop, hit, hrun, Result.andThen]
    exact hK' _ _ (hDone h0)
  · have hem := (mem_left he).1
    obtain ⟨k, g, cp, hk, e1, ⟨e2, e3⟩, e4⟩ := h4 e hem
    have hr1 : w1.heap[r]? = some (.mapIter (some bm) clock seen clock) := by rcases hw1 with rfl | rfl <;> exact hr
    have hb1 : w1.heap[bm]? = some (.map es clock) := by rcases hw1 with rfl | rfl <;> exact hb
    have ho1 : Only [r] w w1 := by rcases hw1 with rfl | rfl; exact Only.refl _ _; exact (Only.refl _ _).drew
    have hlt : r < w1.heap.size := (Array.getElem?_eq_some_iff.1 hr1).1
    have hsz : (setBlock w1 r (.mapIter (some bm) clock (seen.push e.born) clock)).heap.size = w.heap.size := by
      have e : w1.heap.size = w.heap.size := by rcases hw1 with rfl | rfl <;> rfl
      rw [← e]
      simp [setBlock]
    have hr2 : (setBlock w1 r (.mapIter (some bm) clock (seen.push e.born) clock)).heap[r]? = some (.mapIter (some bm) clock (seen.push e.born) clock) := by simp [setBlock, hlt]
    have hot : ∀ i, i ≠ r → (setBlock w1 r (.mapIter (some bm) clock (seen.push e.born) clock)).heap[i]? = w1.heap[i]? := fun i hi => by simp [setBlock, Array.getElem?_setIfInBounds, Ne.symm hi]
    have ho2 : Only [r] w (setBlock w1 r (.mapIter (some bm) clock (seen.push e.born) clock)) := ⟨ho1.os, ho1.tape, ho1.output, by rw [hsz]; exact Nat.le_refl _, fun i hi hn => (hot i (by simpa using hn)).trans (ho1.block i hi hn)⟩
    have hen := run_entry_at (P := Tryd.prog) (setBlock w1 r (.mapIter (some bm) clock (seen.push e.born) clock)) r bm clock seen es clock e hr2 ((hot bm (Ne.symm hne)).trans hb1) hem h7
    rw [e1, e3] at hen hrun
    simp [execOp, hop, hit, hrun, Result.andThen]
    exact hK' _ _ (hMore e k g cp _ he e1 hk e2 e4 ho2 hsz hr2 hen)

theorem copied_row {w : World} {g n : Nat} {cur : Array Value} {t : TypeId} {st : Int → Int} (hg : w.heap[g]? = some (.cells cur t (0, 0))) (hs : cur.size = n * 2) :
    Row (w.setRow g (((List.range (n * 2)).map (pcell st)) ++ cur.toList.drop ((List.range (n * 2)).map (pcell st)).length).toArray) g (2 * n) (pcell st) := by
  refine ⟨t, _, setRow_heap w g cur _ t _ hg, by simp; omega, fun k hk => ?_⟩
  have h1 : k < n * 2 := by omega
  simp [List.getElem?_append, h1]

theorem pair_inj {β : Type} (f : MapEntry → β) : ∀ {l : List MapEntry}, l.Pairwise (fun x y => f x ≠ f y) → ∀ x ∈ l, ∀ y ∈ l, f x = f y → x = y
  | [], _, x, hx, _, _, _ => by cases hx
  | a :: l, h, x, hx, y, hy, e => by
    obtain ⟨h1, h2⟩ := List.pairwise_cons.1 h
    rcases List.mem_cons.1 hx with rfl | hx'
    · rcases List.mem_cons.1 hy with rfl | hy'
      · rfl
      · exact absurd e (h1 y hy')
    · rcases List.mem_cons.1 hy with rfl | hy'
      · exact absurd e.symm (h1 x hx')
      · exact pair_inj f h2 x hx' y hy' e

/-- The measure of the loop over a map. -/
def leftAt (es : Array MapEntry) (r : Nat) (w : World) : Nat := match w.heap[r]? with | some (.mapIter _ _ seen _) => (leftOf es seen).size | _ => 0

set_option maxRecDepth 100000 in
set_option maxHeartbeats 8000000 in
theorem Clone_any {w : World} {p : Nat} {l : List Nat} {m : SpM} (h : SpaceAt w p l m) : Calls Tryd.prog 22 #[.pointer (some ⟨p, 0, none⟩)] w fun e w' =>
    Only [] w w' ∧ ∃ p' l', e = .returned (.pointer (some ⟨p', 0, none⟩)) ∧ SpaceAt w' p' l' m ∧ ∀ b ∈ l', w.heap.size ≤ b := by
  have CM := Lib.hid (made_any h)
  obtain ⟨hg, h3, h4, gp, cap, gm, G, hp⟩ := h
  have HP := Lib.hid hp
  have HG := Lib.hid hg
  have hn1 := hg.n1
  have hn2 := hg.n2
  have hcap := hp.cap_
  have z0 := hp.blk.cell_ 0 rfl
  have z1 := hp.blk.cell_ 1 rfl
  have z2 := hp.blk.cell_ 2 rfl
  have hmk := make_pages m.n hn2
  have hmm := @run_makeMap Tryd.prog
  have hpl := h4 _ hp.pl
  clear hp hg
  generalize hN : m.n = N at *
  go_enter Tryd.func22, Tryd.ntmps22
  go_wp2_with (first | (go_at_call 40; refine Still.use CM.out ?_))
  go_region
  · obtain ⟨w1, hw1⟩ : ∃ w1, w1 = (((w.alloc (.cells (madeCells #[.bool false, .bool false] (N * 2)) 70)).alloc (.map #[] 0)).alloc (.cells #[.slice (some ⟨w.heap.size, 0, none⟩) N N, .map (some (w.heap.size + 1)), .int .i64 m.pk] 58)).drew := ⟨_, rfl⟩
    rw [← hw1]
    have ho1 : Only [] w w1 := by rw [hw1]; exact ((((Only.refl [] w).alloc _).alloc _).alloc _).drew
    have b1 : Blk w1 (w.heap.size + 1 + 1) 58 #[.slice (some ⟨w.heap.size, 0, none⟩) N N, .map (some (w.heap.size + 1)), .int .i64 m.pk] := by
      rw [hw1]
      have := Blk.new ((w.alloc (.cells (madeCells #[.bool false, .bool false] (N * 2)) 70)).alloc (.map #[] 0)) 58 #[.slice (some ⟨w.heap.size, 0, none⟩) N N, .map (some (w.heap.size + 1)), .int .i64 m.pk]
      simp only [World.size_alloc] at this
      exact this
    have hc1 : Blk w1 w.heap.size 70 (madeCells #[.bool false, .bool false] (N * 2)) := by
      rw [hw1]
      exact ((Blk.new w 70 (madeCells #[.bool false, .bool false] (N * 2))).alloc _).alloc _
    have hd1 : Dict w1 (w.heap.size + 1) (fun _ => none) 0 := by
      rw [hw1]
      have := (Dict.made (w.alloc (.cells (madeCells #[.bool false, .bool false] (N * 2)) 70))).only (((Only.refl [] _).alloc (.cells #[.slice (some ⟨w.heap.size, 0, none⟩) N N, .map (some (w.heap.size + 1)), .int .i64 m.pk] 58)).drew) (by simp)
      simp only [World.size_alloc] at this
      exact this
    have hsz1 : w1.heap.size = w.heap.size + 1 + 1 + 1 := by rw [hw1]; simp
    clear hw1 hmk hmm z0 z1 z2
    have x0 := b1.cell_ 0 rfl
    have x1 := b1.cell_ 1 rfl
    have hp1 := HP.out.only ho1 (by simp)
    have z0 := hp1.blk.cell_ 0 rfl
    have z1 := hp1.blk.cell_ 1 rfl
    rw [hN] at z0
    obtain ⟨w2, hcopy, ho2, hrow2⟩ : ∃ W2, (Builtin.copy_ #[55, 55] 3 #[.slice (some ⟨w.heap.size, 0, none⟩) N N, .slice (some ⟨gp, 0, none⟩) N cap]).run Tryd.prog w1.drew = .ok (goInt N) W2 ∧ Only [w.heap.size] w1 W2 ∧ Row W2 w.heap.size (2 * N) (pcell m.st) := by
      have hc := run_copy_pages w1.drew 3 w.heap.size N cap gp _ 70 ((List.range (N * 2)).map (pcell m.st)) hc1 (by simp) (fun j v hj => by
        have hjl : j < N * 2 := by
          rcases Nat.lt_or_ge j (N * 2) with h1 | h1
          · exact h1
          · rw [List.getElem?_eq_none (by simpa using h1)] at hj; cases hj
        rw [List.getElem?_map, List.getElem?_range hjl] at hj
        have e : (⟨gp, 0, none⟩ : Addr).add j = ⟨gp, j, none⟩ := by unfold Addr.add; split <;> simp_all
        rw [e]
        exact (hp1.row.cell (by rw [hN]; omega)).trans hj) (by simp [size_madeCells]) (fun v hv => by
        obtain ⟨k, _, rfl⟩ := List.mem_map.1 hv
        unfold pcell
        split <;> rfl)
      refine ⟨_, hc, ?_, copied_row (show w1.drew.heap[w.heap.size]? = _ from hc1) (size_madeCells _ _)⟩
      refine ⟨rfl, rfl, rfl, by unfold World.setRow; dsimp only; rw [Array.size_modify]; exact Nat.le_refl _, fun i hi hn => ?_⟩
      exact setRow_other w1.drew w.heap.size i _ (by simpa using hn)
    go_wp2_with fail
    go_region
    clear hcopy x0 z0
    have hgm := HP.out.ml
    have hgml := h4 _ hgm
    have hwsz := ho2.size
    have hp2 := hp1.only (l' := [w.heap.size]) ho2 (fun b hb => by have := h4 b hb; simp; omega)
    have hd2 := hd1.only ho2 (by simp; try omega)
    have b2 := b1.only ho2 (by simp; try omega)
    have x1 := b2.cell_ 1 rfl
    have z1 := hp2.blk.cell_ 1 rfl
    obtain ⟨es, clock, hes, hec, he3, he4, he5, he6, he7⟩ := id hp2.dict
    have hrg := run_range_map (P := Tryd.prog) w2 56 3 40 gm es clock Tryd.underlying56 hes
    have hit0 : (w2.alloc (.mapIter (some gm) clock #[] clock)).heap[w2.heap.size]? = some (.mapIter (some gm) clock #[] clock) := heap_alloc_new w2 _
    have ho3 : Only [] w2 (w2.alloc (.mapIter (some gm) clock #[] clock)) := (Only.refl [] w2).alloc _
    have hsz3 : (w2.alloc (.mapIter (some gm) clock #[] clock)).heap.size = w2.heap.size + 1 := World.size_alloc _ _
    go_wp2_with fail
    generalize (w2.alloc (.mapIter (some gm) clock #[] clock)) = w3 at *
    obtain ⟨r, hr⟩ : ∃ r, r = w2.heap.size := ⟨_, rfl⟩
    rw [← hr] at hit0 hsz3 ⊢
    have hrl : w.heap.size + 3 ≤ r := by omega
    clear hr
    clear hrg z1 x1
    have hp3 := hp2.only ho3 (by simp)
    have hd3 := hd2.only ho3 (by simp)
    have b3 := b2.only ho3 (by simp)
    have hr3 := hrow2.only ho3 (by simp)
    have hes3 : w3.heap[gm]? = some (.map es clock) := (ho3.block gm (by omega) (by simp)).trans hes
    have ho03 : Only [] w w3 := (ho1.then_ ho2 (fun b hb => .inr (by simp at hb; omega))).trans ho3
    have HP3 := Lib.hid hp3
    have HD3 := Lib.hid hd3
    have HR3 := Lib.hid hr3
    have HE3 := Lib.hid he3
    have HE4 := Lib.hid he4
    have HE5 := Lib.hid he5
    have HE6 := Lib.hid he6
    have HE7 := Lib.hid he7
    have hgmr : gm < w.heap.size := h4 _ hgm
    clear hp1 hp2 hp3 hd1 hd2 hd3 hr3 hrow2 hc1 b1 b2 hes he3 he4 he5 he6 he7
    go_loopw [4] (fun _ wr => ∃ (seen : Array Nat) (D' : Int → Option Nat) (c' : Nat), wr.heap[r]? = some (.mapIter (some gm) clock seen clock) ∧ Only [r, (w.heap.size + 1)] w3 wr ∧ Dict wr (w.heap.size + 1) D' c' ∧ Hid (∀ e ∈ es.toList, ∀ k, e.key = .int .i64 k → ((seen.contains e.born = true) ↔ (D' k).isSome = true)) ∧
      Hid (∀ k g', D' k = some g' → (G k).isSome = true ∧ w3.heap.size ≤ g' ∧ Row wr g' 32 (fun j => .int .i64 (m.h (32 * k + j)))) ∧ Hid (∀ i j g', D' i = some g' → D' j = some g' → i = j)) (fun _ wr => leftAt es r wr)
    case atStart => exact ⟨#[], fun _ => none, 0, hit0, Only.refl _ _, HD3.out, fun e _ k _ => by simp, fun k g' h => (by cases h), fun i j g' h => (by cases h)⟩
    case round =>
      obtain ⟨seen, D', c', hit, ho, hD, HSE, HRW, HIN⟩ := hrel
      have hes4 : _ := (ho.block gm (by omega) (by simp; omega)).trans hes3
      have hbx := b3.only ho (by simp; omega)
      have HDD := Lib.hid hD
      go_wp2_with (first | (at_next; refine wpList_next_dict rfl _ rfl r gm clock G seen es rfl hit hes4 HE4.out HE6.out HE7.out (by omega) ?_ ?_))
      · intro h0
        have hall := all_seen es seen (by rw [h0]; rfl)
        go_wp2_with fail
        go_ret
        have hpp := HP3.out.only (l' := [r, (w.heap.size + 1)]) ho (fun b hb => by have := h4 b hb; simp; omega)
        have hsm : ∀ i, (G i).isSome = (D' i).isSome := by
          intro i
          cases hGi : G i with
          | none =>
            cases hDi : D' i with
            | none => rfl
            | some g' =>
              have := (HRW.out i g' hDi).1
              rw [hGi] at this
              cases this
          | some g0 =>
            obtain ⟨_, x, hx, hx2⟩ := HE5.out i g0 hGi
            exact ((HSE.out x hx i hx2).1 (hall x hx)).symm
        have hsz := ho.size
        have hfin : Only [] w wr := ho03.then_ ho (fun b hb => .inr (by simp at hb; omega))
        have hml : ∀ b, w.heap.size ≤ b → b < wr.heap.size → b ∈ (List.range wr.heap.size).filter (fun b => decide (w.heap.size ≤ b)) := fun b hb1 hb2 => by simp; omega
        refine ⟨hfin, w.heap.size + 1 + 1, (List.range wr.heap.size).filter (fun b => decide (w.heap.size ≤ b)), rfl, ⟨HG.out, fun b hb => ?_, fun b hb => ?_, w.heap.size, N, (w.heap.size + 1), D', hml _ (by omega) (by omega), hml _ (by omega) (by omega), hml _ (by omega) (by omega), by omega, by omega, by omega, by rw [hN]; exact hbx, by omega, by rw [hN]; exact HR3.out.only ho (by simp; omega), ?_, fun i g' hi => ?_, fun i h1 h2 h3 => ?_, HIN.out⟩, fun b hb => ?_⟩
        · simp at hb; have := h3 _ HP.out.pl; omega
        · simp at hb; omega
        · rw [hpp.dict.same HDD.out hsm]; exact HDD.out
        · obtain ⟨hs1, hs2, hs3⟩ := HRW.out i g' hi
          obtain ⟨g0, hg0⟩ := Option.isSome_iff_exists.1 hs1
          have hlt := hs3.lt
          exact ⟨(hpp.words i g0 hg0).1, hml _ (by omega) hlt, by omega, by omega, by omega, hs3⟩
        · obtain ⟨g0, hg0⟩ := hpp.all i h1 h2 h3
          have := hsm i
          rw [hg0] at this
          exact Option.isSome_iff_exists.1 this.symm
        · simp at hb; omega
      · intro e k g cp w4 hel hek hk hcp hGk ho4 hsz4 hit4 hen
        go_wp2_with fail
        have hx4 := hbx.only ho4 (by simp; omega)
        have x1 := hx4.cell_ 1 rfl
        have hD4 := HDD.out.only ho4 (by simp; omega)
        have hpp := (HP3.out.only (l' := [r, (w.heap.size + 1)]) ho (fun b hb => by have := h4 b hb; simp; omega)).only (l' := [r]) ho4 (fun b hb => by have := h4 b hb; simp; omega)
        have hrw := (hpp.words k g hGk).2.2.2.2.2
        have hem := (mem_left (Array.mem_toList_iff.2 hel)).1
        have hDk : D' k = none := by
          have h1 := (mem_left (Array.mem_toList_iff.2 hel)).2
          have h2 := HSE.out e hem k hek
          cases hd : D' k with
          | none => rfl
          | some g0 => rw [h1, hd] at h2; simp at h2
        go_region_held3 (fun w' => w'.cell? ⟨w.heap.size + 1 + 1, 1, none⟩ = some (.map (some (w.heap.size + 1)))) (first | assumption)
          (first
          | (go_at_call 41; refine (sclone_any _ g cp (fun j => m.h (32 * k + j)) hrw.drew).mono ?_; rintro e' w5 ⟨g', cp', rfl, hg5, hcp5, hrow5, ho5⟩; have x5 := (hx4.drew.only ho5 (by simp)).cell_ 1 rfl; have hD5 := Dict.only (w := w4.drew) hD4 ho5 (by simp); obtain ⟨ob, hup, hD6, ho6⟩ := hD5.put_o hk hDk g' cp' hcp5; have x6 := ((hx4.drew.only ho5 (by simp)).only ho6 (by simp; try omega)).cell_ 1 rfl))
        generalize setBlock w5 (w.heap.size + 1) ob = w6 at *
        have ho5' : Only [] w4 w5 := ⟨ho5.os, ho5.tape, ho5.output, ho5.size, ho5.block⟩
        have hg5' : w4.heap.size ≤ g' := hg5
        have hszr := ho.size
        have hsz5 := ho5'.size
        have hit5 : w5.heap[r]? = _ := (ho5'.block r (Array.getElem?_eq_some_iff.1 hit4).1 (by simp)).trans hit4
        have hit6 : w6.heap[r]? = _ := (ho6.block r (Array.getElem?_eq_some_iff.1 hit5).1 (by simp; omega)).trans hit5
        have hoall : Only [r, (w.heap.size + 1)] w3 w6 := ((ho.trans (ho4.mono (by simp))).trans (ho5'.mono (by simp))).trans (ho6.mono (by simp))
        have hk1 := HSE
        clear hup hen x1 x5 hD4 hD5 hpp hrw hx4 hbx hes4
        go_wp2_with fail
        go_roundw
        case rel =>
          refine ⟨seen.push e.born, _, _, hit6, hoall, hD6, fun x hx k' hk' => ?_, fun k' g'' hk' => ?_, fun i j g'' h1 h2 => ?_⟩
          · rw [contains_push]
            by_cases ek : k' = k
            · subst ek
              have : x = e := pair_inj (fun x => x.key) HE3.out x hx e hem (hk'.trans hek.symm)
              subst this
              simp
            · have hb : (x.born == e.born) = false := beq_eq_false_iff_ne.2 (fun eb => ek (by
                have : x = e := pair_inj (fun x => x.born) (List.pairwise_map.1 HE7.out) x hx e hem eb
                rw [this, hek] at hk'
                injection hk' with _ hk'
                exact hk'.symm))
              rw [hb, Bool.or_false, if_neg ek]
              exact HSE.out x hx k' hk'
          · by_cases ek : k' = k
            · rw [if_pos ek] at hk'
              injection hk' with hk'
              subst hk' ek
              exact ⟨by rw [hGk]; rfl, by omega, hrow5.only ho6 (by simp; omega)⟩
            · rw [if_neg ek] at hk'
              obtain ⟨q1, q2, q3⟩ := HRW.out k' g'' hk'
              exact ⟨q1, q2, ((q3.only ho4 (by simp; omega)).only ho5' (by simp)).only ho6 (by simp; omega)⟩
          · by_cases e1 : i = k
            · rw [if_pos e1] at h1
              injection h1 with h1
              by_cases e2 : j = k
              · rw [e1, e2]
              · rw [if_neg e2] at h2
                have := (HRW.out j g'' h2).2.2.lt
                omega
            · rw [if_neg e1] at h1
              by_cases e2 : j = k
              · rw [if_pos e2] at h2
                injection h2 with h2
                have := (HRW.out i g'' h1).2.2.lt
                omega
              · rw [if_neg e2] at h2
                exact HIN.out i j g'' h1 h2
        case measure =>
          unfold leftAt
          rw [hit6, hit]
          exact left_shrinks es seen e (Array.mem_toList_iff.2 hel)
  · obtain ⟨w1, hw1⟩ : ∃ w1, w1 = (((w.alloc (.map #[] 0)).alloc (.cells (madeCells #[.bool false, .bool false] (N * 2)) 70)).alloc (.cells #[.slice (some ⟨(w.heap.size + 1), 0, none⟩) N N, .map (some w.heap.size), .int .i64 m.pk] 58)).drew := ⟨_, rfl⟩
    rw [← hw1]
    have ho1 : Only [] w w1 := by rw [hw1]; exact ((((Only.refl [] w).alloc _).alloc _).alloc _).drew
    have b1 : Blk w1 (w.heap.size + 1 + 1) 58 #[.slice (some ⟨(w.heap.size + 1), 0, none⟩) N N, .map (some w.heap.size), .int .i64 m.pk] := by
      rw [hw1]
      have := Blk.new ((w.alloc (.map #[] 0)).alloc (.cells (madeCells #[.bool false, .bool false] (N * 2)) 70)) 58 #[.slice (some ⟨(w.heap.size + 1), 0, none⟩) N N, .map (some w.heap.size), .int .i64 m.pk]
      simp only [World.size_alloc] at this
      exact this
    have hc1 : Blk w1 (w.heap.size + 1) 70 (madeCells #[.bool false, .bool false] (N * 2)) := by
      rw [hw1]
      have := (Blk.new (w.alloc (.map #[] 0)) 70 (madeCells #[.bool false, .bool false] (N * 2))).alloc (.cells #[.slice (some ⟨(w.heap.size + 1), 0, none⟩) N N, .map (some w.heap.size), .int .i64 m.pk] 58)
      simp only [World.size_alloc] at this
      exact this
    have hd1 : Dict w1 w.heap.size (fun _ => none) 0 := by
      rw [hw1]
      exact (Dict.made w).only ((((Only.refl [] _).alloc _).alloc _).drew) (by simp)
    have hsz1 : w1.heap.size = w.heap.size + 1 + 1 + 1 := by rw [hw1]; simp
    clear hw1 hmk hmm z0 z1 z2
    have x0 := b1.cell_ 0 rfl
    have x1 := b1.cell_ 1 rfl
    have hp1 := HP.out.only ho1 (by simp)
    have z0 := hp1.blk.cell_ 0 rfl
    have z1 := hp1.blk.cell_ 1 rfl
    rw [hN] at z0
    obtain ⟨w2, hcopy, ho2, hrow2⟩ : ∃ W2, (Builtin.copy_ #[55, 55] 3 #[.slice (some ⟨(w.heap.size + 1), 0, none⟩) N N, .slice (some ⟨gp, 0, none⟩) N cap]).run Tryd.prog w1.drew = .ok (goInt N) W2 ∧ Only [(w.heap.size + 1)] w1 W2 ∧ Row W2 (w.heap.size + 1) (2 * N) (pcell m.st) := by
      have hc := run_copy_pages w1.drew 3 (w.heap.size + 1) N cap gp _ 70 ((List.range (N * 2)).map (pcell m.st)) hc1 (by simp) (fun j v hj => by
        have hjl : j < N * 2 := by
          rcases Nat.lt_or_ge j (N * 2) with h1 | h1
          · exact h1
          · rw [List.getElem?_eq_none (by simpa using h1)] at hj; cases hj
        rw [List.getElem?_map, List.getElem?_range hjl] at hj
        have e : (⟨gp, 0, none⟩ : Addr).add j = ⟨gp, j, none⟩ := by unfold Addr.add; split <;> simp_all
        rw [e]
        exact (hp1.row.cell (by rw [hN]; omega)).trans hj) (by simp [size_madeCells]) (fun v hv => by
        obtain ⟨k, _, rfl⟩ := List.mem_map.1 hv
        unfold pcell
        split <;> rfl)
      refine ⟨_, hc, ?_, copied_row (show w1.drew.heap[(w.heap.size + 1)]? = _ from hc1) (size_madeCells _ _)⟩
      refine ⟨rfl, rfl, rfl, by unfold World.setRow; dsimp only; rw [Array.size_modify]; exact Nat.le_refl _, fun i hi hn => ?_⟩
      exact setRow_other w1.drew (w.heap.size + 1) i _ (by simpa using hn)
    go_wp2_with fail
    go_region
    clear hcopy x0 z0
    have hgm := HP.out.ml
    have hgml := h4 _ hgm
    have hwsz := ho2.size
    have hp2 := hp1.only (l' := [(w.heap.size + 1)]) ho2 (fun b hb => by have := h4 b hb; simp; omega)
    have hd2 := hd1.only ho2 (by simp; try omega)
    have b2 := b1.only ho2 (by simp; try omega)
    have x1 := b2.cell_ 1 rfl
    have z1 := hp2.blk.cell_ 1 rfl
    obtain ⟨es, clock, hes, hec, he3, he4, he5, he6, he7⟩ := id hp2.dict
    have hrg := run_range_map (P := Tryd.prog) w2 56 3 40 gm es clock Tryd.underlying56 hes
    have hit0 : (w2.alloc (.mapIter (some gm) clock #[] clock)).heap[w2.heap.size]? = some (.mapIter (some gm) clock #[] clock) := heap_alloc_new w2 _
    have ho3 : Only [] w2 (w2.alloc (.mapIter (some gm) clock #[] clock)) := (Only.refl [] w2).alloc _
    have hsz3 : (w2.alloc (.mapIter (some gm) clock #[] clock)).heap.size = w2.heap.size + 1 := World.size_alloc _ _
    go_wp2_with fail
    generalize (w2.alloc (.mapIter (some gm) clock #[] clock)) = w3 at *
    obtain ⟨r, hr⟩ : ∃ r, r = w2.heap.size := ⟨_, rfl⟩
    rw [← hr] at hit0 hsz3 ⊢
    have hrl : w.heap.size + 3 ≤ r := by omega
    clear hr
    clear hrg z1 x1
    have hp3 := hp2.only ho3 (by simp)
    have hd3 := hd2.only ho3 (by simp)
    have b3 := b2.only ho3 (by simp)
    have hr3 := hrow2.only ho3 (by simp)
    have hes3 : w3.heap[gm]? = some (.map es clock) := (ho3.block gm (by omega) (by simp)).trans hes
    have ho03 : Only [] w w3 := (ho1.then_ ho2 (fun b hb => .inr (by simp at hb; omega))).trans ho3
    have HP3 := Lib.hid hp3
    have HD3 := Lib.hid hd3
    have HR3 := Lib.hid hr3
    have HE3 := Lib.hid he3
    have HE4 := Lib.hid he4
    have HE5 := Lib.hid he5
    have HE6 := Lib.hid he6
    have HE7 := Lib.hid he7
    have hgmr : gm < w.heap.size := h4 _ hgm
    clear hp1 hp2 hp3 hd1 hd2 hd3 hr3 hrow2 hc1 b1 b2 hes he3 he4 he5 he6 he7
    go_loopw [4] (fun _ wr => ∃ (seen : Array Nat) (D' : Int → Option Nat) (c' : Nat), wr.heap[r]? = some (.mapIter (some gm) clock seen clock) ∧ Only [r, w.heap.size] w3 wr ∧ Dict wr w.heap.size D' c' ∧ Hid (∀ e ∈ es.toList, ∀ k, e.key = .int .i64 k → ((seen.contains e.born = true) ↔ (D' k).isSome = true)) ∧
      Hid (∀ k g', D' k = some g' → (G k).isSome = true ∧ w3.heap.size ≤ g' ∧ Row wr g' 32 (fun j => .int .i64 (m.h (32 * k + j)))) ∧ Hid (∀ i j g', D' i = some g' → D' j = some g' → i = j)) (fun _ wr => leftAt es r wr)
    case atStart => exact ⟨#[], fun _ => none, 0, hit0, Only.refl _ _, HD3.out, fun e _ k _ => by simp, fun k g' h => (by cases h), fun i j g' h => (by cases h)⟩
    case round =>
      obtain ⟨seen, D', c', hit, ho, hD, HSE, HRW, HIN⟩ := hrel
      have hes4 : _ := (ho.block gm (by omega) (by simp; omega)).trans hes3
      have hbx := b3.only ho (by simp; omega)
      have HDD := Lib.hid hD
      go_wp2_with (first | (at_next; refine wpList_next_dict rfl _ rfl r gm clock G seen es rfl hit hes4 HE4.out HE6.out HE7.out (by omega) ?_ ?_))
      · intro h0
        have hall := all_seen es seen (by rw [h0]; rfl)
        go_wp2_with fail
        go_ret
        have hpp := HP3.out.only (l' := [r, w.heap.size]) ho (fun b hb => by have := h4 b hb; simp; omega)
        have hsm : ∀ i, (G i).isSome = (D' i).isSome := by
          intro i
          cases hGi : G i with
          | none =>
            cases hDi : D' i with
            | none => rfl
            | some g' =>
              have := (HRW.out i g' hDi).1
              rw [hGi] at this
              cases this
          | some g0 =>
            obtain ⟨_, x, hx, hx2⟩ := HE5.out i g0 hGi
            exact ((HSE.out x hx i hx2).1 (hall x hx)).symm
        have hsz := ho.size
        have hfin : Only [] w wr := ho03.then_ ho (fun b hb => .inr (by simp at hb; omega))
        have hml : ∀ b, w.heap.size ≤ b → b < wr.heap.size → b ∈ (List.range wr.heap.size).filter (fun b => decide (w.heap.size ≤ b)) := fun b hb1 hb2 => by simp; omega
        refine ⟨hfin, w.heap.size + 1 + 1, (List.range wr.heap.size).filter (fun b => decide (w.heap.size ≤ b)), rfl, ⟨HG.out, fun b hb => ?_, fun b hb => ?_, (w.heap.size + 1), N, w.heap.size, D', hml _ (by omega) (by omega), hml _ (by omega) (by omega), hml _ (by omega) (by omega), by omega, by omega, by omega, by rw [hN]; exact hbx, by omega, by rw [hN]; exact HR3.out.only ho (by simp; omega), ?_, fun i g' hi => ?_, fun i h1 h2 h3 => ?_, HIN.out⟩, fun b hb => ?_⟩
        · simp at hb; have := h3 _ HP.out.pl; omega
        · simp at hb; omega
        · rw [hpp.dict.same HDD.out hsm]; exact HDD.out
        · obtain ⟨hs1, hs2, hs3⟩ := HRW.out i g' hi
          obtain ⟨g0, hg0⟩ := Option.isSome_iff_exists.1 hs1
          have hlt := hs3.lt
          exact ⟨(hpp.words i g0 hg0).1, hml _ (by omega) hlt, by omega, by omega, by omega, hs3⟩
        · obtain ⟨g0, hg0⟩ := hpp.all i h1 h2 h3
          have := hsm i
          rw [hg0] at this
          exact Option.isSome_iff_exists.1 this.symm
        · simp at hb; omega
      · intro e k g cp w4 hel hek hk hcp hGk ho4 hsz4 hit4 hen
        go_wp2_with fail
        have hx4 := hbx.only ho4 (by simp; omega)
        have x1 := hx4.cell_ 1 rfl
        have hD4 := HDD.out.only ho4 (by simp; omega)
        have hpp := (HP3.out.only (l' := [r, w.heap.size]) ho (fun b hb => by have := h4 b hb; simp; omega)).only (l' := [r]) ho4 (fun b hb => by have := h4 b hb; simp; omega)
        have hrw := (hpp.words k g hGk).2.2.2.2.2
        have hem := (mem_left (Array.mem_toList_iff.2 hel)).1
        have hDk : D' k = none := by
          have h1 := (mem_left (Array.mem_toList_iff.2 hel)).2
          have h2 := HSE.out e hem k hek
          cases hd : D' k with
          | none => rfl
          | some g0 => rw [h1, hd] at h2; simp at h2
        go_region_held3 (fun w' => w'.cell? ⟨w.heap.size + 1 + 1, 1, none⟩ = some (.map (some w.heap.size))) (first | assumption)
          (first
          | (go_at_call 41; refine (sclone_any _ g cp (fun j => m.h (32 * k + j)) hrw.drew).mono ?_; rintro e' w5 ⟨g', cp', rfl, hg5, hcp5, hrow5, ho5⟩; have x5 := (hx4.drew.only ho5 (by simp)).cell_ 1 rfl; have hD5 := Dict.only (w := w4.drew) hD4 ho5 (by simp); obtain ⟨ob, hup, hD6, ho6⟩ := hD5.put_o hk hDk g' cp' hcp5; have x6 := ((hx4.drew.only ho5 (by simp)).only ho6 (by simp; try omega)).cell_ 1 rfl))
        generalize setBlock w5 w.heap.size ob = w6 at *
        have ho5' : Only [] w4 w5 := ⟨ho5.os, ho5.tape, ho5.output, ho5.size, ho5.block⟩
        have hg5' : w4.heap.size ≤ g' := hg5
        have hszr := ho.size
        have hsz5 := ho5'.size
        have hit5 : w5.heap[r]? = _ := (ho5'.block r (Array.getElem?_eq_some_iff.1 hit4).1 (by simp)).trans hit4
        have hit6 : w6.heap[r]? = _ := (ho6.block r (Array.getElem?_eq_some_iff.1 hit5).1 (by simp; omega)).trans hit5
        have hoall : Only [r, w.heap.size] w3 w6 := ((ho.trans (ho4.mono (by simp))).trans (ho5'.mono (by simp))).trans (ho6.mono (by simp))
        have hk1 := HSE
        clear hup hen x1 x5 hD4 hD5 hpp hrw hx4 hbx hes4
        go_wp2_with fail
        go_roundw
        case rel =>
          refine ⟨seen.push e.born, _, _, hit6, hoall, hD6, fun x hx k' hk' => ?_, fun k' g'' hk' => ?_, fun i j g'' h1 h2 => ?_⟩
          · rw [contains_push]
            by_cases ek : k' = k
            · subst ek
              have : x = e := pair_inj (fun x => x.key) HE3.out x hx e hem (hk'.trans hek.symm)
              subst this
              simp
            · have hb : (x.born == e.born) = false := beq_eq_false_iff_ne.2 (fun eb => ek (by
                have : x = e := pair_inj (fun x => x.born) (List.pairwise_map.1 HE7.out) x hx e hem eb
                rw [this, hek] at hk'
                injection hk' with _ hk'
                exact hk'.symm))
              rw [hb, Bool.or_false, if_neg ek]
              exact HSE.out x hx k' hk'
          · by_cases ek : k' = k
            · rw [if_pos ek] at hk'
              injection hk' with hk'
              subst hk' ek
              exact ⟨by rw [hGk]; rfl, by omega, hrow5.only ho6 (by simp; omega)⟩
            · rw [if_neg ek] at hk'
              obtain ⟨q1, q2, q3⟩ := HRW.out k' g'' hk'
              exact ⟨q1, q2, ((q3.only ho4 (by simp; omega)).only ho5' (by simp)).only ho6 (by simp; omega)⟩
          · by_cases e1 : i = k
            · rw [if_pos e1] at h1
              injection h1 with h1
              by_cases e2 : j = k
              · rw [e1, e2]
              · rw [if_neg e2] at h2
                have := (HRW.out j g'' h2).2.2.lt
                omega
            · rw [if_neg e1] at h1
              by_cases e2 : j = k
              · rw [if_pos e2] at h2
                injection h2 with h2
                have := (HRW.out i g'' h1).2.2.lt
                omega
              · rw [if_neg e2] at h2
                exact HIN.out i j g'' h1 h2
        case measure =>
          unfold leftAt
          rw [hit6, hit]
          exact left_shrinks es seen e (Array.mem_toList_iff.2 hel)
end Go.Proofs.YtmalmkccgjeboaaDoor
