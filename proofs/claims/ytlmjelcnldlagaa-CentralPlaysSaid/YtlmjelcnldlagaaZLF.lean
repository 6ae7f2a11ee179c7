/- slices.Insert of an entry. -/
import Derived.Test.YtlmjelcnldlagaaPB
import Derived.Shelf.Spec.SlicesInsert
import Derived.Shelf.RegionOpenPlain
import Derived.Lib.AppendZerosOnto
import Derived.Lib.Overlaps
import Derived.Laws.CopyRow
import Derived.Laws.IdiomCopy
set_option linter.unusedVariables false
set_option linter.unusedSimpArgs false
namespace Go.Proofs.Ytlmjelcnldlagaa
open Go.RowKit

theorem info_ent : (Try.prog.info? 75).map (fun i => (i.zero, i.size, i.bytes)) = some (some (.agg #[.int .i64 0, .int .i64 0, .pointer none]), 3, 24) := by kernel_rfl

theorem run_copy3 (W : World) (ty : TypeId) (g o dl dc : Nat) (sa : Addr) (sl sc : Nat) (cur : Array Value) (t : TypeId) (cs : List Value) (k : Nat) (hk : Nat.min sl dl = k) (hn : cs.length = k * 3) (hg : W.heap[g]? = some (.cells cur t (0, 0)))
    (hsrc : ∀ j v, cs[j]? = some v → W.cell? (sa.add j) = some v) (hfit : o + cs.length ≤ cur.size) (h1 : ∀ v ∈ cs, v.oneCell' = true) :
    (Builtin.copy_ #[66, 66] ty #[.slice (some ⟨g, o, none⟩) dl dc, .slice (some sa) sl sc]).run Try.prog W = .ok (goInt k) (W.setRow g (cur.toList.take o ++ cs ++ cur.toList.drop (o + cs.length)).toArray) := by
  obtain ⟨i, hi, hz, hs, hb⟩ := info_parts info_ent
  have hl := run_loadCells_list (P := Try.prog) W sa cs hsrc
  have hst := run_storeCells_at Try.prog g o t cs 0 cur W hg (by simpa using hfit) h1
  rw [hn] at hl
  simp only [Nat.add_zero] at hst
  simp [Builtin.copy_, run_underlying Try.underlying66, Builtin.lenOf, Builtin.firstCells, sizeOf, typeInfo, hi, hs, hk, hl, hst]

theorem splice_at (cur cs : List Value) (o : Nat) (h : o + cs.length ≤ cur.length) (j : Nat) : (cur.take o ++ cs ++ cur.drop (o + cs.length))[j]? = if o ≤ j ∧ j < o + cs.length then cs[j - o]? else cur[j]? := by
  have h1 : (cur.take o).length = o := by rw [List.length_take]; omega
  by_cases h2 : j < o
  · rw [List.append_assoc, List.getElem?_append_left (by omega), List.getElem?_take, if_pos h2, if_neg (by omega)]
  · by_cases h3 : j < o + cs.length
    · rw [List.getElem?_append_left (by rw [List.length_append]; omega), List.getElem?_append_right (by omega), h1, if_pos (by omega)]
    · rw [List.getElem?_append_right (by rw [List.length_append]; omega), List.length_append, h1, List.getElem?_drop, if_neg (by omega)]
      congr 1
      omega

theorem only_setRow {l : List Nat} {a W : World} {g : Nat} {cs : Array Value} (h : Only l a W) (hg : g ∈ l ∨ a.heap.size ≤ g) : Only l a (W.setRow g cs) := by
  refine h.then_ (l' := [g]) ⟨rfl, rfl, rfl, by simp, fun i hi hn => setRow_other W g i _ (by simpa using hn)⟩ (fun b hb => ?_)
  simp at hb
  subst hb
  exact hg

set_option maxRecDepth 100000 in
set_option maxHeartbeats 2000000 in
/-- At the end: append. -/
theorem linsert_end (w : World) (base : Nat) (v : Value) (n : Nat) (xs : List Value) (hown : w.ownsRow base 75 3 v n xs) (vb : Nat) (x y z : Value) (hvb : Blk w vb 75 #[x, y, z]) (h1 : x.oneCell' = true ∧ y.oneCell' = true ∧ z.oneCell' = true) (hn : n ≤ 1000000) (hbase : base ≤ w.heap.size) :
    Calls Try.prog 51 #[v, .int .i64 n, .slice (some ⟨vb, 0, none⟩) 1 1] w fun e w' =>
      ∃ v', e = .returned v' ∧ w'.ownsRow base 75 3 v' (n + 1) (xs ++ [x, y, z]) ∧ Only v.ownBlock.toList w w' ∧ (v'.ownBlock = v.ownBlock ∨ v'.ownBlock = some w.heap.size) := by
  obtain ⟨ad, cp, rfl, _⟩ := own_slice hown
  obtain ⟨i0, hi, hz0, hz1, hz2⟩ := info_parts info_ent
  by_cases hc : cp = n
  · subst hc
    go_enter Try.func51, Try.ntmps51
    go_wp2_with (at_builtin; refine wpList_append_own_at _ rfl _ _ 66 rfl base 75 i0 (.agg #[.int .i64 0, .int .i64 0, .pointer none]) 3 24 Try.underlying66 hi hz0 hz1 hz2 rfl (by decide) _ _ _ rfl hown ⟨vb, 0, none⟩ 1 1 [x, y, z] rfl rfl (World.news_of_block hvb) (by simp; exact h1) (by unfold maxLen; omega) (by omega) hbase ?_; intro v1 w1 hown1 hg1 _ hat1)
    go_ret
    exact ⟨v1, rfl, hown1, (Only.refl _ w).grown hg1 (fun k hk => .inl (Option.mem_toList.2 hk)), hat1⟩
  · go_enter Try.func51, Try.ntmps51
    go_wp2_with (at_builtin; refine wpList_append_own_at _ rfl _ _ 66 rfl base 75 i0 (.agg #[.int .i64 0, .int .i64 0, .pointer none]) 3 24 Try.underlying66 hi hz0 hz1 hz2 rfl (by decide) _ _ _ rfl hown ⟨vb, 0, none⟩ 1 1 [x, y, z] rfl rfl (World.news_of_block hvb) (by simp; exact h1) (by unfold maxLen; omega) (by omega) hbase ?_; intro v1 w1 hown1 hg1 _ hat1)
    go_ret
    exact ⟨v1, rfl, hown1, (Only.refl _ w).grown hg1 (fun k hk => .inl (Option.mem_toList.2 hk)), hat1⟩

/-- The list with an entry put in. -/
theorem insert_cells (cur xs : List Value) (a : List Value) (i n : Nat) (hi : i ≤ n) (ha : a.length = 3) (hx : xs.length = n * 3) (hc : (n + 1) * 3 ≤ cur.length) (h : ∀ j, j < (n + 1) * 3 → cur[j]? = if j < i * 3 then xs[j]? else if j < i * 3 + 3 then a[j - i * 3]? else xs[j - 3]?) :
    cur.take ((n + 1) * 3) = xs.take (i * 3) ++ a ++ xs.drop (i * 3) := by
  have h1 : (xs.take (i * 3)).length = i * 3 := by rw [List.length_take]; omega
  apply List.ext_getElem?
  intro j
  rw [List.getElem?_take]
  by_cases hj : j < (n + 1) * 3
  · rw [if_pos hj, h j hj]
    by_cases h2 : j < i * 3
    · rw [if_pos h2, List.append_assoc, List.getElem?_append_left (by omega), List.getElem?_take, if_pos h2]
    · rw [if_neg h2]
      by_cases h3 : j < i * 3 + 3
      · rw [if_pos h3, List.getElem?_append_left (by rw [List.length_append]; omega), List.getElem?_append_right (by omega), h1]
      · rw [if_neg h3, List.getElem?_append_right (by rw [List.length_append]; omega), List.length_append, h1, List.getElem?_drop]
        congr 1
        omega
  · rw [if_neg hj, List.getElem?_eq_none]
    rw [List.length_append, List.length_append, h1, List.length_drop]
    omega

set_option maxRecDepth 100000 in
set_option maxHeartbeats 4000000 in
/-- Amid, and no room: a new row. -/
theorem linsert_grow (w : World) (base g n cp i : Nat) (xs : List Value) (cur : Array Value) (hB : Blk w g 75 cur) (hcur : cur.size = cp * 3) (hxs : cur.toList.take (n * 3) = xs) (hx1 : ∀ v ∈ xs, v.oneCell' = true) (hin : i < n) (hnc : n ≤ cp) (hfull : cp < n + 1)
    (vb : Nat) (x y z : Value) (hvb : Blk w vb 75 #[x, y, z]) (h1 : x.oneCell' = true ∧ y.oneCell' = true ∧ z.oneCell' = true) (hn : n ≤ 1000000) (hbase : base ≤ w.heap.size) :
    Calls Try.prog 51 #[.slice (some ⟨g, 0, none⟩) n cp, .int .i64 i, .slice (some ⟨vb, 0, none⟩) 1 1] w fun e w' =>
      ∃ v', e = .returned v' ∧ w'.ownsRow base 75 3 v' (n + 1) (xs.take (i * 3) ++ [x, y, z] ++ xs.drop (i * 3)) ∧ Only [] w w' ∧ v'.ownBlock = some w.heap.size := by
  obtain ⟨i0, hi, hz0, hz1, hz2⟩ := info_parts info_ent
  have hxl : xs.length = n * 3 := by rw [← hxs, List.length_take, Array.length_toList]; omega
  have hd2 : ¬ ((i : Int) = (n : Int)) := by omega
  have hd3 : (cp : Int) < (n : Int) + 1 := by omega
  have hcell : ∀ j v, xs[j]? = some v → w.cell? ⟨g, j, none⟩ = some v := fun j v hj => by
    have hj' : j < n * 3 := by
      rcases Nat.lt_or_ge j (n * 3) with h | h
      · exact h
      · rw [List.getElem?_eq_none (by omega)] at hj; cases hj
    rw [← hxs, List.getElem?_take, if_pos hj', Array.getElem?_toList] at hj
    exact hB.cell_ j hj
  have hold : (Builtin.firstCells i0.size i (.slice (some ⟨g, 0, none⟩) i cp)).run Try.prog w.drew = .ok (xs.take (i * 3)).toArray w.drew := by
    rw [hz1]
    exact run_firstCells_some w.drew 3 i ⟨g, 0, none⟩ i cp (xs.take (i * 3)) (by rw [List.length_take]; omega) (fun j v hj => by
      rw [Addr.add_lit, Nat.zero_add]
      rw [List.getElem?_take] at hj
      split at hj
      · exact hcell j v hj
      · cases hj)
  have hkk : (n : Int) + 1 - (i : Int) = ((n + 1 - i : Nat) : Int) := by omega
  have hik : i + (n + 1 - i) = n + 1 := by omega
  have hrz : ∀ ty, (Builtin.append_ #[66, 3] ty #[.slice (some ⟨g, 0, none⟩) i cp, .int .i64 ((n : Int) + 1 - (i : Int))]).run Try.prog w =
      .ok (.slice (some ⟨w.heap.size, 0, none⟩) (n + 1) (grownCap w (n + 1) cp 75)) (w.drew.alloc (.cells ((xs.take (i * 3)).toArray ++ Builtin.zeroCells (Value.agg #[.int .i64 0, .int .i64 0, .pointer none]).cells (n + 1 - i) ++ Builtin.zeroCells (Value.agg #[.int .i64 0, .int .i64 0, .pointer none]).cells (grownCap w (n + 1) cp 75 - (n + 1))) 75)) := fun ty => by
    have h := Lib.run_append_grow_zeros w 66 3 ty 75 i0 _ .i64 .i64 Try.underlying66 Try.underlying3 hi hz0 (some ⟨g, 0, none⟩) i cp (xs.take (i * 3)) hold (n + 1 - i) (by omega) (by omega) (by omega) (by omega) (by rw [hz2]; omega) (by rw [hz2, hik]; exact growslice_fits hfull (by omega))
    rw [hik] at h
    rw [hkk]
    exact h
  obtain ⟨G, hG⟩ : ∃ G, G = grownCap w (n + 1) cp 75 := ⟨_, rfl⟩
  have hGn : n + 1 ≤ G := by rw [hG]; exact grownCap_ge w _ _ _
  have hGm : G ≤ maxLen := by rw [hG]; exact grownCap_le_maxLen w (n + 1) cp _ (by unfold maxLen; omega)
  obtain ⟨ROW, hROW⟩ : ∃ ROW : Array Value, ROW = (xs.take (i * 3)).toArray ++ Builtin.zeroCells (Value.agg #[.int .i64 0, .int .i64 0, .pointer none]).cells (n + 1 - i) ++ Builtin.zeroCells (Value.agg #[.int .i64 0, .int .i64 0, .pointer none]).cells (G - (n + 1)) := ⟨_, rfl⟩
  rw [← hG] at hrz
  rw [← hROW] at hrz
  have hRs : ROW.size = G * 3 := by
    rw [hROW]
    simp [Builtin.zeroCells, Value.cells]
    omega
  have hRt : ∀ j, j < i * 3 → ROW.toList[j]? = xs[j]? := fun j hj => by
    rw [hROW]
    simp only [Array.toList_append, List.toList_toArray, List.append_assoc]
    rw [List.getElem?_append_left (by rw [List.length_take]; omega), List.getElem?_take, if_pos hj]
  have hb : Blk (w.alloc (.cells ROW 75)) w.heap.size 75 ROW := Blk.new w _ ROW
  have hglt := hB.lt
  have hvlt := hvb.lt
  obtain ⟨W1, hW1⟩ : ∃ W1, W1 = w.alloc (.cells ROW 75) := ⟨_, rfl⟩
  have hO1 : Only [] w W1 := by rw [hW1]; exact (Only.refl [] w).alloc _
  rw [← hW1] at hb
  obtain ⟨R2, hR2⟩ : ∃ R2 : Array Value, R2 = (ROW.toList.take (i * 3) ++ [x, y, z] ++ ROW.toList.drop (i * 3 + [x, y, z].length)).toArray := ⟨_, rfl⟩
  have hR2s : R2.size = G * 3 := by rw [hR2]; simp; omega
  have hcpA : ∀ (W : World), W.heap = W1.heap → ∀ ty dc, (Builtin.copy_ #[66, 66] ty #[.slice (some ⟨w.heap.size, i * 3, none⟩) (n + 1 - i) dc, .slice (some ⟨vb, 0, none⟩) 1 1]).run Try.prog W = .ok (goInt 1) (W.setRow w.heap.size R2) := fun W hW ty dc => by
    rw [hR2]
    refine run_copy3 W ty w.heap.size (i * 3) (n + 1 - i) dc ⟨vb, 0, none⟩ 1 1 ROW _ [x, y, z] 1 (by simp only [Nat.min_def]; split <;> omega) rfl (by rw [hW]; exact hb) (fun j v hj => ?_) (by simp; omega) (by simp; exact h1)
    have := World.news_of_block (hvb.only hO1 (by simp)) j v hj
    rwa [show W.cell? ((⟨vb, 0, none⟩ : Addr).add j) = W1.cell? ((⟨vb, 0, none⟩ : Addr).add j) from World.cell?_of_block (by rw [hW])]
  obtain ⟨W2, hW2⟩ : ∃ W2, W2 = W1.setRow w.heap.size R2 := ⟨_, rfl⟩
  have hO2 : Only [] w W2 := by rw [hW2]; exact only_setRow hO1 (.inr (Nat.le_refl _))
  have hb2 : Blk W2 w.heap.size 75 R2 := by rw [hW2]; exact setRow_heap W1 w.heap.size ROW R2 _ _ hb
  obtain ⟨R3, hR3⟩ : ∃ R3 : Array Value, R3 = (R2.toList.take ((i + 1) * 3) ++ xs.drop (i * 3) ++ R2.toList.drop ((i + 1) * 3 + (xs.drop (i * 3)).length)).toArray := ⟨_, rfl⟩
  have hdl : (xs.drop (i * 3)).length = (n - i) * 3 := by rw [List.length_drop]; omega
  have hR3s : R3.size = G * 3 := by rw [hR3]; simp; omega
  have hcpB : ∀ (W : World), W.heap = W2.heap → ∀ ty dc sc, (Builtin.copy_ #[66, 66] ty #[.slice (some ⟨w.heap.size, (i + 1) * 3, none⟩) (n + 1 - (i + 1)) dc, .slice (some ⟨g, i * 3, none⟩) (n - i) sc]).run Try.prog W = .ok (goInt (n - i : Nat)) (W.setRow w.heap.size R3) := fun W hW ty dc sc => by
    rw [hR3]
    refine run_copy3 W ty w.heap.size ((i + 1) * 3) (n + 1 - (i + 1)) dc ⟨g, i * 3, none⟩ (n - i) sc R2 _ (xs.drop (i * 3)) (n - i) (by simp only [Nat.min_def]; split <;> omega) hdl (by rw [hW]; exact hb2) (fun j v hj => ?_) (by rw [hdl]; omega) (fun v hv => hx1 v (List.mem_of_mem_drop hv))
    rw [Addr.add_lit, show W.cell? ⟨g, i * 3 + j, none⟩ = W2.cell? ⟨g, i * 3 + j, none⟩ from World.cell?_of_block (by rw [hW])]
    rw [List.getElem?_drop] at hj
    exact (hO2.cell (p := ⟨g, i * 3 + j, none⟩) hglt (by simp)).trans (hcell _ v hj)
  have hgi : ¬ (cp = i) := by omega
  have hGi : ¬ (G = i) := by omega
  have hGim : ¬ (G = i + 1) := by omega
  have mixed : Try.prog.follows .mixedOrders = true := by kernel_rfl
  have hw1 : IntKind.i64.wrap ((i : Int) + 1) = (i : Int) + 1 := by rw [IntKind.wrap_i64]; omega
  have hb1 : (0 : Int) ≤ (i : Int) + 1 := by omega
  have hb3 : (i : Int) + 1 ≤ (n : Int) + 1 := by omega
  have hb4 : (i : Int) ≤ (n : Int) := by omega
  have htn : ((i : Int) + 1).toNat = i + 1 := by omega
  have hin' : i ≤ n := by omega
  have HROW := Lib.hid hROW
  have HW1 := Lib.hid hW1
  have HR2 := Lib.hid hR2
  have HO1 := Lib.hid hO1
  have HRT := Lib.hid hRt
  have HB1 := Lib.hid hb
  have HCELL := Lib.hid hcell
  have HG := Lib.hid hG
  have HW2 := Lib.hid hW2
  have HR3 := Lib.hid hR3
  have HO2 := Lib.hid hO2
  have HB2 := Lib.hid hb2
  have HDL := Lib.hid hdl
  clear hkk hik hold hROW hG hRt hR2 hb hO1 hcell hW1 hW2 hR3 hO2 hb2 hdl
  go_enter Try.func51, Try.ntmps51
  go_wp2_with (first
    | (at_builtin; refine Lib.wpList_append_run _ rfl _ _ _ _ rfl _ _ rfl rfl _ _ (hrz _) ?_)
    | (refine wpList_copy_runI _ rfl _ _ 66 66 rfl _ _ rfl rfl (hcpA _ (by rw [HW1.out] <;> rfl) _ _) ?_))
  go_region_law_o (refine step_copy_runI rfl _ _ 66 66 rfl (.slice (some ⟨w.heap.size, (i + 1) * 3, none⟩) (n + 1 - (i + 1)) (G - (i + 1))) (.slice (some ⟨g, i * 3, none⟩) (n - i) (cp - i)) (by simp [Act.eval, Act.put]) (by simp [Act.eval, Act.put]) (hcpB _ (by rw [HW2.out, HW1.out] <;> rfl) 3 (G - (i + 1)) (cp - i)) ?_)
  go_wp2
  go_ret
  have hbX : ((w.alloc (Obj.cells ROW 75)).drew.setRow w.heap.size R2).drew.heap[w.heap.size]? = some (.cells R2 75 (0, 0)) := by
    have := HB2.out
    rw [HW2.out, HW1.out] at this
    exact this
  refine ⟨_, rfl, ⟨by simp; omega, .inr ⟨w.heap.size, G, R3, rfl, hbase, setRow_heap _ _ R2 R3 _ _ hbX, hGn, hGm, hR3s, ?_⟩⟩, only_setRow (only_setRow (((Only.refl [] w).alloc _).drew) (.inr (Nat.le_refl _))).drew (.inr (Nat.le_refl _)), rfl⟩
  refine insert_cells R3.toList xs [x, y, z] i n (by omega) rfl hxl (by simp; omega) (fun j hj => ?_)
  rw [HR3.out]
  simp only [List.toList_toArray]
  rw [splice_at _ _ _ (by rw [HDL.out, Array.length_toList]; omega), HDL.out]
  by_cases h2 : (i + 1) * 3 ≤ j
  · rw [if_pos (by omega), if_neg (by omega), if_neg (by omega), List.getElem?_drop]
    congr 1
    omega
  · rw [if_neg (by omega), HR2.out]
    simp only [List.toList_toArray]
    rw [splice_at _ _ _ (by rw [Array.length_toList]; simp; omega)]
    by_cases h3 : i * 3 ≤ j
    · rw [if_pos ⟨h3, by simp; omega⟩, if_neg (by omega), if_pos (by omega)]
    · rw [if_neg (by omega), if_pos (by omega)]
      exact HRT.out j (by omega)

set_option maxRecDepth 100000 in
set_option maxHeartbeats 4000000 in
/-- Amid, and there is room: in place. -/
theorem linsert_room (w : World) (base g n cp i : Nat) (xs : List Value) (cur : Array Value) (hB : Blk w g 75 cur) (hcur : cur.size = cp * 3) (hxs : cur.toList.take (n * 3) = xs) (hx1 : ∀ v ∈ xs, v.oneCell' = true) (hin : i < n) (hroom : n + 1 ≤ cp) (hcm : cp ≤ maxLen) (hbg : base ≤ g)
    (vb : Nat) (x y z : Value) (hvb : Blk w vb 75 #[x, y, z]) (hne : vb ≠ g) (h1 : x.oneCell' = true ∧ y.oneCell' = true ∧ z.oneCell' = true) (hn : n ≤ 1000000) :
    Calls Try.prog 51 #[.slice (some ⟨g, 0, none⟩) n cp, .int .i64 i, .slice (some ⟨vb, 0, none⟩) 1 1] w fun e w' =>
      ∃ v', e = .returned v' ∧ w'.ownsRow base 75 3 v' (n + 1) (xs.take (i * 3) ++ [x, y, z] ++ xs.drop (i * 3)) ∧ Only [g] w w' ∧ v'.ownBlock = some g := by
  obtain ⟨i0, hi, hz0, hz1, hz2⟩ := info_parts info_ent
  have hxl : xs.length = n * 3 := by rw [← hxs, List.length_take, Array.length_toList]; omega
  have hd2 : ¬ ((i : Int) = (n : Int)) := by omega
  have hd3 : ¬ ((cp : Int) < (n : Int) + 1) := by omega
  have hxat : ∀ j, j < n * 3 → cur.toList[j]? = xs[j]? := fun j hj => by rw [← hxs, List.getElem?_take, if_pos hj]
  have hcell : ∀ j v, xs[j]? = some v → w.cell? ⟨g, j, none⟩ = some v := fun j v hj => by
    have hj' : j < n * 3 := by
      rcases Nat.lt_or_ge j (n * 3) with h | h
      · exact h
      · rw [List.getElem?_eq_none (by omega)] at hj; cases hj
    rw [← hxs, List.getElem?_take, if_pos hj', Array.getElem?_toList] at hj
    exact hB.cell_ j hj
  have hsz : ∀ w, (Go.sizeOf 75).run Try.prog w = .ok 3 w := fun w => by simp [sizeOf, typeInfo, hi, hz1]
  have hov : ∀ lb cb, (callFunc 77 #[.slice (some ⟨vb, 0, none⟩) 1 1, .slice (some ⟨g, (i + 1) * 3, none⟩) lb cb]).run Try.prog w = .ok (.value (.bool false)) w := fun lb cb => by
    rw [run_callFunc_extern Try.func77 (by kernel_rfl) (by kernel_rfl) (by kernel_rfl) (e := Extern.SlicesOverlaps.overlaps #[66, 66] #[4]) (by kernel_rfl),
      Lib.run_overlaps_apart w 66 4 75 Try.underlying66 3 hsz ⟨vb, 0, none⟩ ⟨g, (i + 1) * 3, none⟩ 1 1 lb cb hne 75 75 3 cur.size (by have := hvb; unfold Blk at this; simp [World.shape?, this]) (by have := hB; unfold Blk at this; simp [World.shape?, this]) (by omega) (hvb.frozen 0) (hvb.frozen 3)]
    rfl
  have hdl : (xs.drop (i * 3)).length = (n - i) * 3 := by rw [List.length_drop]; omega
  obtain ⟨R2, hR2⟩ : ∃ R2 : Array Value, R2 = (cur.toList.take ((i + 1) * 3) ++ xs.drop (i * 3) ++ cur.toList.drop ((i + 1) * 3 + (xs.drop (i * 3)).length)).toArray := ⟨_, rfl⟩
  have hR2s : R2.size = cp * 3 := by rw [hR2]; simp; omega
  obtain ⟨R3, hR3⟩ : ∃ R3 : Array Value, R3 = (R2.toList.take (i * 3) ++ [x, y, z] ++ R2.toList.drop (i * 3 + [x, y, z].length)).toArray := ⟨_, rfl⟩
  have hR3s : R3.size = cp * 3 := by rw [hR3]; simp; omega
  have hcpA : ∀ (W : World), W.heap = w.heap → ∀ ty dc sc, (Builtin.copy_ #[66, 66] ty #[.slice (some ⟨g, (i + 1) * 3, none⟩) (n + 1 - (i + 1)) dc, .slice (some ⟨g, i * 3, none⟩) (n + 1 - i) sc]).run Try.prog W = .ok (goInt (n - i : Nat)) (W.setRow g R2) := fun W hW ty dc sc => by
    rw [hR2]
    refine run_copy3 W ty g ((i + 1) * 3) (n + 1 - (i + 1)) dc ⟨g, i * 3, none⟩ (n + 1 - i) sc cur _ (xs.drop (i * 3)) (n - i) (by simp only [Nat.min_def]; split <;> omega) hdl (by rw [hW]; exact hB) (fun j v hj => ?_) (by rw [hdl]; omega) (fun v hv => hx1 v (List.mem_of_mem_drop hv))
    rw [Addr.add_lit, show W.cell? ⟨g, i * 3 + j, none⟩ = w.cell? ⟨g, i * 3 + j, none⟩ from World.cell?_of_block (by rw [hW])]
    rw [List.getElem?_drop] at hj
    exact hcell _ v hj
  obtain ⟨W2, hW2⟩ : ∃ W2, W2 = w.setRow g R2 := ⟨_, rfl⟩
  have hO2 : Only [g] w W2 := by rw [hW2]; exact only_setRow (Only.refl _ _) (.inl (by simp))
  have hb2 : Blk W2 g 75 R2 := by rw [hW2]; exact setRow_heap w g cur R2 _ _ hB
  have hvb2 : Blk W2 vb 75 #[x, y, z] := hvb.only hO2 (by simpa using hne)
  have hcpB : ∀ (W : World), W.heap = W2.heap → ∀ ty dc, (Builtin.copy_ #[66, 66] ty #[.slice (some ⟨g, i * 3, none⟩) (n + 1 - i) dc, .slice (some ⟨vb, 0, none⟩) 1 1]).run Try.prog W = .ok (goInt 1) (W.setRow g R3) := fun W hW ty dc => by
    rw [hR3]
    refine run_copy3 W ty g (i * 3) (n + 1 - i) dc ⟨vb, 0, none⟩ 1 1 R2 _ [x, y, z] 1 (by simp only [Nat.min_def]; split <;> omega) rfl (by rw [hW]; exact hb2) (fun j v hj => ?_) (by simp; omega) (by simp; exact h1)
    have := World.news_of_block hvb2 j v hj
    rwa [show W.cell? ((⟨vb, 0, none⟩ : Addr).add j) = W2.cell? ((⟨vb, 0, none⟩ : Addr).add j) from World.cell?_of_block (by rw [hW])]
  have hci : ¬ (cp = i) := by omega
  have hci1 : ¬ (cp = i + 1) := by omega
  have mixed : Try.prog.follows .mixedOrders = true := by kernel_rfl
  have hw1 : IntKind.i64.wrap ((i : Int) + 1) = (i : Int) + 1 := by rw [IntKind.wrap_i64]; omega
  have hb1 : (0 : Int) ≤ (i : Int) + 1 := by omega
  have hb3 : (i : Int) + 1 ≤ (n : Int) + 1 := by omega
  have hb4 : (i : Int) ≤ (n : Int) := by omega
  have hb5 : (n : Int) + 1 ≤ (cp : Int) := by omega
  have hb6 : (i : Int) ≤ (n : Int) + 1 := by omega
  have htn : ((i : Int) + 1).toNat = i + 1 := by omega
  have htn2 : ((n : Int) + 1).toNat = n + 1 := by omega
  have hin' : i ≤ n := by omega
  have HW2 := Lib.hid hW2
  have HR2 := Lib.hid hR2
  have HR3 := Lib.hid hR3
  have HB2 := Lib.hid hb2
  have HDL := Lib.hid hdl
  have HXAT := Lib.hid hxat
  clear hR2 hR3 hb2 hO2 hcell hdl hW2 hvb2 hxat
  go_enter Try.func51, Try.ntmps51
  go_wp2_with (simp only [hov])
  go_region_law_o (refine step_copy_runI rfl _ _ 66 66 rfl (.slice (some ⟨g, (i + 1) * 3, none⟩) (n + 1 - (i + 1)) (cp - (i + 1))) (.slice (some ⟨g, i * 3, none⟩) (n + 1 - i) (cp - i)) (by simp [Act.eval, Act.put]) (by simp [Act.eval, Act.put]) (hcpA w.drew rfl 3 (cp - (i + 1)) (cp - i)) ?_)
  go_wp2_with (refine wpList_copy_runI _ rfl _ _ 66 66 rfl _ _ rfl rfl (hcpB _ (by rw [HW2.out] <;> rfl) _ _) ?_)
  go_ret
  have hbX : (w.drew.setRow g R2).heap[g]? = some (.cells R2 75 (0, 0)) := setRow_heap _ _ cur R2 _ _ hB
  refine ⟨_, rfl, ⟨by simp; omega, .inr ⟨g, cp, R3, rfl, hbg, setRow_heap _ _ R2 R3 _ _ hbX, hroom, hcm, hR3s, ?_⟩⟩, only_setRow (only_setRow (Only.refl [g] w).drew (.inl (by simp))) (.inl (by simp)), rfl⟩
  refine insert_cells R3.toList xs [x, y, z] i n (by omega) rfl hxl (by simp; omega) (fun j hj => ?_)
  rw [HR3.out]
  simp only [List.toList_toArray]
  rw [splice_at _ _ _ (by rw [Array.length_toList]; simp; omega)]
  by_cases h3 : i * 3 ≤ j ∧ j < i * 3 + 3
  · rw [if_pos ⟨h3.1, by simp; omega⟩, if_neg (by omega), if_pos (by omega)]
  · rw [if_neg (by simp; omega), HR2.out]
    simp only [List.toList_toArray]
    rw [splice_at _ _ _ (by rw [HDL.out, Array.length_toList]; omega), HDL.out]
    by_cases h2 : (i + 1) * 3 ≤ j
    · rw [if_pos (by omega), if_neg (by omega), if_neg (by omega), List.getElem?_drop]
      congr 1
      omega
    · rw [if_neg (by omega), if_pos (by omega)]
      exact HXAT.out j (by omega)

/-- slices.Insert, of one entry. -/
theorem linsert_any (w : World) (base : Nat) (v : Value) (n i : Nat) (xs : List Value) (hown : w.ownsRow base 75 3 v n xs) (hx1 : ∀ v ∈ xs, v.oneCell' = true) (hin : i ≤ n) (vb : Nat) (x y z : Value) (hvb : Blk w vb 75 #[x, y, z]) (hne : v.ownBlock ≠ some vb)
    (h1 : x.oneCell' = true ∧ y.oneCell' = true ∧ z.oneCell' = true) (hn : n ≤ 1000000) (hbase : base ≤ w.heap.size) :
    Calls Try.prog 51 #[v, .int .i64 i, .slice (some ⟨vb, 0, none⟩) 1 1] w fun e w' =>
      ∃ v', e = .returned v' ∧ w'.ownsRow base 75 3 v' (n + 1) (xs.take (i * 3) ++ [x, y, z] ++ xs.drop (i * 3)) ∧ Only v.ownBlock.toList w w' ∧ (v'.ownBlock = v.ownBlock ∨ v'.ownBlock = some w.heap.size) := by
  rcases Nat.lt_or_ge i n with hlt | hge
  · obtain ⟨hxl, hown'⟩ := hown
    rcases hown' with ⟨_, h0⟩ | ⟨g, cap, cur, rfl, hb, hg, h3, h4, h5, h6⟩
    · omega
    · rcases Nat.lt_or_ge cap (n + 1) with hfull | hroom
      · refine (linsert_grow w base g n cap i xs cur hg h5 h6 hx1 hlt h3 hfull vb x y z hvb h1 hn hbase).mono ?_
        rintro e w' ⟨v', rfl, a1, a2, a3⟩
        exact ⟨v', rfl, a1, a2.of_nil, .inr a3⟩
      · refine (linsert_room w base g n cap i xs cur hg h5 h6 hx1 hlt hroom h4 hb vb x y z hvb (fun e => hne (by rw [e]; rfl)) h1 hn).mono ?_
        rintro e w' ⟨v', rfl, a1, a2, a3⟩
        exact ⟨v', rfl, a1, a2, .inl a3⟩
  · obtain rfl : i = n := by omega
    refine (linsert_end w base v i xs hown vb x y z hvb h1 hn hbase).mono ?_
    rintro e w' ⟨v', rfl, a1, a2, a3⟩
    have hl := hown.1
    refine ⟨v', rfl, ?_, a2, a3⟩
    rw [List.take_of_length_le (by omega), List.drop_of_length_le (by omega), List.append_nil]
    exact a1
end Go.Proofs.Ytlmjelcnldlagaa
