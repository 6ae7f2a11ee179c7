/- Parts of Clone: copy of pages, clone of words. -/
import Derived.Test.YtmalmkccgjeboaaDoorVM
import Derived.Laws.CopyRow
import Derived.Laws.IdiomCopy
import Derived.Maps.RangeRun
import Derived.Maps.RangeWalk
import Derived.Lib.LazyBuf
set_option linter.unusedVariables false
set_option linter.unusedSimpArgs false
namespace Go.Proofs.YtmalmkccgjeboaaDoor
open Go.RowKit
open Go.ChangeMaps Go.Maps

theorem run_copy_pages (w : World) (ty : TypeId) (g n cap gp : Nat) (cur : Array Value) (t : TypeId) (cs : List Value) (hg : w.heap[g]? = some (.cells cur t (0, 0))) (hn : cs.length = n * 2)
    (hsrc : ∀ j v, cs[j]? = some v → w.cell? ((⟨gp, 0, none⟩ : Addr).add j) = some v) (hfit : cs.length ≤ cur.size) (h1 : ∀ v ∈ cs, v.oneCell' = true) :
    (Builtin.copy_ #[55, 55] ty #[.slice (some ⟨g, 0, none⟩) n n, .slice (some ⟨gp, 0, none⟩) n cap]).run Tryd.prog w = .ok (goInt n) (w.setRow g (cs ++ cur.toList.drop cs.length).toArray) := by
  obtain ⟨i, hi, hz, hs, hb⟩ := info_parts info_page
  have hl := run_loadCells_list (P := Tryd.prog) w (⟨gp, 0, none⟩ : Addr) cs hsrc
  have hst := run_storeCells_at Tryd.prog g 0 t cs 0 cur w hg (by simpa using hfit) h1
  rw [hn] at hl
  simp [Builtin.copy_, run_underlying Tryd.underlying55, Builtin.lenOf, Builtin.firstCells, sizeOf, typeInfo, hi, hs, hl, hst, hn]

theorem own0 (w : World) (t : Nat) : (w.alloc (.cells #[] t)).ownsRow w.heap.size t 1 (.slice (some ⟨w.heap.size, 0, none⟩) 0 0) 0 [] := World.ownsRow_lit w #[] 0 (Nat.le_refl _) (Nat.zero_le _) rfl

set_option maxHeartbeats 1000000 in
/-- The words of a page are copied into a block of their own. -/
theorem sclone_any (w : World) (g cp : Nat) (f : Nat → Int) (h : Row w g 32 (fun k => .int .i64 (f k))) : Calls Tryd.prog 41 #[sl g cp] w fun e w' =>
    ∃ g' cp', e = .returned (sl g' cp') ∧ w.heap.size ≤ g' ∧ 32 ≤ cp' ∧ Row w' g' 32 (fun k => .int .i64 (f k)) ∧ Only [] w w' := by
  obtain ⟨i0, hi, hz0, hz1, hz2⟩ := info_parts info_int
  have hnil := Lib.run_eql_slice_nil (P := Tryd.prog) w 40 3 (some ⟨g, 0, none⟩) 32 cp 0 0 Tryd.underlying40
  have HC := Lib.hid (fun j (u : Value) (hu : ((List.range 32).map (fun k => Value.int .i64 (f k)))[j]? = some u) => (by
    have hj : j < 32 := by
      rcases Nat.lt_or_ge j 32 with h1 | h1
      · exact h1
      · rw [List.getElem?_eq_none (by simpa using h1)] at hu; cases hu
    have hc := (h.alloc (.cells #[] 3)).cell hj
    rw [List.getElem?_map, List.getElem?_range hj] at hu
    have e : (⟨g, 0, none⟩ : Addr).add j = ⟨g, j, none⟩ := by unfold Addr.add; split <;> simp_all
    rw [e, hc]
    exact hu : (w.alloc (.cells #[] 3)).cell? ((⟨g, 0, none⟩ : Addr).add j) = some u))
  have hone : ∀ u ∈ (List.range 32).map (fun k => Value.int .i64 (f k)), u.oneCell' = true := by
    intro u hu
    obtain ⟨k, _, rfl⟩ := List.mem_map.1 hu
    rfl
  have hlen : ((List.range 32).map (fun k => Value.int .i64 (f k))).length = 32 * 1 := by simp
  generalize hcs : (List.range 32).map (fun k => Value.int .i64 (f k)) = cs at *
  have HCS := Lib.hid hcs
  clear h hcs
  go_enter Tryd.func41, Tryd.ntmps41
  go_wp2_with (at_builtin; refine wpList_append_own _ rfl _ _ 40 rfl w.heap.size 3 i0 (.int .i64 0) 1 8 Tryd.underlying40 hi hz0 hz1 hz2 rfl (by decide) _ _ _ rfl (own0 w _) ⟨g, 0, none⟩ 32 cp cs rfl hlen HC.out hone (by unfold maxLen; omega) (by omega) (by simp) ?_; intro v1 w1 hown1 hg1 _)
  go_ret
  rcases hown1.2 with ⟨_, h0⟩ | ⟨g', cap', cur, rfl, hb, hh, h1, h2, h3, ht⟩
  · cases h0
  · refine ⟨g', cap', rfl, hb, by omega, ⟨_, cur, hh, by omega, fun k hk => ?_⟩, ((Only.refl [] w).alloc _).grown hg1 (fun k hk => .inr (own_base (own0 w 0) k hk))⟩
    have := congrArg (fun l => l[k]?) ht
    rw [← HCS.out] at this
    simp only [List.getElem?_take, Array.getElem?_toList, List.nil_append, List.getElem?_map, List.getElem?_range hk] at this
    simpa [hk] using this
end Go.Proofs.YtmalmkccgjeboaaDoor
