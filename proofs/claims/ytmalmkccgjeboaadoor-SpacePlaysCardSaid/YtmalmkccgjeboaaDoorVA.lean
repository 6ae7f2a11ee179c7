/- A map from pages to blocks of words: its word, and the laws on its operations. The model of a space. -/
import Derived.Test.YtmalmkccgjeboaaDoorGrew
import Derived.Maps.OwnSet
import Derived.Maps.OwnOps
set_option linter.unusedVariables false
set_option linter.unusedSimpArgs false
namespace Go.Proofs.YtmalmkccgjeboaaDoor
open Go.RowKit
open Go.Maps Go.ChangeMaps

/-- The words of a page: a slice of 32 numbers. -/
abbrev sl (g cp : Nat) : Value := .slice (some ⟨g, 0, none⟩) 32 cp

theorem kint : Keyed Tryd.prog 3 := int_keyed Tryd.underlying3
theorem wf64 {k : Int} (h : I64 k) : (Lit.int .i64 k).wf = true := by
  unfold I64 at h
  exact Go.WalkArith.wf_i64 (by omega)
theorem kof {k : Int} (h : I64 k) : keyOf Tryd.prog 3 (.int .i64 k) = some (.int .i64 k) := keyOf_int_mk Tryd.underlying3 (wf64 h)

/-- Block b is a map that leads from k to the words in block g just where G says so. It has c entries. -/
def Dict (w : World) (b : Nat) (G : Int → Option Nat) (c : Nat) : Prop :=
  ∃ es clock, w.heap[b]? = some (.map es clock) ∧ es.size = c ∧ es.toList.Pairwise (fun x y => x.key ≠ y.key) ∧
    (∀ x ∈ es.toList, ∃ k g cp, I64 k ∧ x.key = .int .i64 k ∧ (32 ≤ cp ∧ x.val = sl g cp) ∧ G k = some g) ∧ (∀ k g, G k = some g → I64 k ∧ ∃ x ∈ es.toList, x.key = .int .i64 k) ∧ (∀ x ∈ es.toList, x.born < clock) ∧ (es.toList.map (·.born)).Nodup

namespace Dict
variable {w w' : World} {b c : Nat} {G : Int → Option Nat}
theorem lt (h : Dict w b G c) : b < w.heap.size := by obtain ⟨es, clock, hb, _⟩ := h; exact (Array.getElem?_eq_some_iff.1 hb).1
theorem only {l : List Nat} (h : Dict w b G c) (ho : Only l w w') (hb : b ∉ l) : Dict w' b G c := by
  have hl := h.lt
  obtain ⟨es, clock, h1, r⟩ := h
  exact ⟨es, clock, (ho.block b hl hb).trans h1, r⟩
theorem made (w : World) : Dict (w.alloc (.map #[] 0)) w.heap.size (fun _ => none) 0 :=
  ⟨#[], 0, heap_alloc_new w _, rfl, by simp, by simp, by simp, by simp, by simp⟩
theorem keys (h : Dict w b G c) {es : Array MapEntry} {clock : Nat} (hb : w.heap[b]? = some (.map es clock)) : ∀ e ∈ es.toList, ∃ l, keyOf Tryd.prog 3 e.key = some l := by
  obtain ⟨es', clock', h1, h2, h3, h4, h5, _⟩ := h
  rw [h1] at hb
  injection hb with hb
  injection hb with hb _
  subst hb
  intro e he
  obtain ⟨k, g, cp, hk, hk2, _⟩ := h4 e he
  exact ⟨_, by rw [hk2]; exact kof hk⟩

theorem look (h : Dict w b G c) {k : Int} (hk : I64 k) (ok : Bool) :
    (∃ g cp, G k = some g ∧ 32 ≤ cp ∧ (Instr.lookup 56 (.map (some b)) (.int .i64 k) ok).run Tryd.prog w = .ok (if ok then .tuple #[sl g cp, .bool true] else sl g cp) w) ∨
    (G k = none ∧ (Instr.lookup 56 (.map (some b)) (.int .i64 k) ok).run Tryd.prog w = .ok (if ok then .tuple #[.slice none 0 0, .bool false] else .slice none 0 0) w) := by
  have hz : (zeroValue 40).run Tryd.prog w = .ok (.slice none 0 0) w := by kernel_rfl
  obtain ⟨es, clock, h1, h2, h3, h4, h5, h6, h7⟩ := h
  have hks := keys ⟨es, clock, h1, h2, h3, h4, h5, h6, h7⟩ h1
  rcases kint.find w (kof hk) es.toList hks with ⟨f1, f2⟩ | ⟨j, e, f1, f2, f3⟩
  · right
    refine ⟨?_, by simp [Instr.lookup, run_underlying Tryd.underlying56, MapKept.run_getObj_map h1, kint.check w _ (kof hk), f1, hz, Result.andThen]⟩
    cases hg : G k with
    | none => rfl
    | some g =>
      obtain ⟨x, hx, hx2⟩ := (h5 k g hg).2
      exact absurd hx2 (f2 x hx)
  · left
    obtain ⟨k', g, cp, _, g2, ⟨g5, g3⟩, g4⟩ := h4 e (List.mem_of_getElem? f2)
    rw [f3] at g2
    injection g2 with _ g2
    subst g2
    exact ⟨g, cp, g4, g5, by simp [Instr.lookup, run_underlying Tryd.underlying56, MapKept.run_getObj_map h1, kint.check w _ (kof hk), f1, g3, Result.andThen]⟩

/-- A page that is not there is laid in. -/
theorem put (h : Dict w b G c) {k : Int} (hk : I64 k) (hG : G k = none) (g cp : Nat) (hcp : 32 ≤ cp) :
    ∃ o, (Instr.mapUpdate 56 (.map (some b)) (.int .i64 k) (sl g cp)).run Tryd.prog w = .ok () (setBlock w b o) ∧ Dict (setBlock w b o) b (fun j => if j = k then some g else G j) (c + 1) := by
  obtain ⟨es, clock, h1, h2, h3, h4, h5, h6, h7⟩ := h
  have hks := keys ⟨es, clock, h1, h2, h3, h4, h5, h6, h7⟩ h1
  rcases kint.find w (kof hk) es.toList hks with ⟨f1, f2⟩ | ⟨j, e, f1, f2, f3⟩
  · refine ⟨.map (es.push ⟨.int .i64 k, sl g cp, clock⟩) (clock + 1), ?_, _, _, heap_setBlock_same h1 _, by simp [h2], ?_, ?_, ?_, ?_, ?_⟩
    · simp [Instr.mapUpdate, run_underlying Tryd.underlying56, MapKept.run_getObj_map h1, kint.check w false (kof hk), f1, MapKept.run_setObj_map _ h1, Result.andThen, setBlock]
    · rw [Array.toList_push, List.pairwise_append]
      refine ⟨h3, by simp, fun x hx y hy => ?_⟩
      rw [List.mem_singleton] at hy
      rw [hy]
      exact f2 x hx
    · intro x hx
      rw [Array.toList_push, List.mem_append, List.mem_singleton] at hx
      rcases hx with hx | rfl
      · obtain ⟨k', g', cp', a1, a2, a3, a4⟩ := h4 x hx
        refine ⟨k', g', cp', a1, a2, a3, ?_⟩
        dsimp only
        rw [if_neg]
        · exact a4
        · rintro rfl
          rw [hG] at a4
          cases a4
      · exact ⟨k, g, cp, hk, rfl, ⟨hcp, rfl⟩, by simp⟩
    · intro k' g' hg'
      dsimp only at hg'
      by_cases e : k' = k
      · subst e
        exact ⟨hk, ⟨.int .i64 k', sl g cp, clock⟩, by simp, rfl⟩
      · rw [if_neg e] at hg'
        obtain ⟨a1, x, hx, hx2⟩ := h5 k' g' hg'
        exact ⟨a1, x, by simp; exact .inl (by simpa using hx), hx2⟩
    · intro x hx
      rw [Array.toList_push, List.mem_append, List.mem_singleton] at hx
      rcases hx with hx | rfl
      · have := h6 x hx; omega
      · exact Nat.lt_succ_self _
    · rw [Array.toList_push, List.map_append, List.nodup_append]
      refine ⟨h7, by simp, ?_⟩
      intro a ha b hb
      obtain ⟨x, hx, rfl⟩ := List.mem_map.1 ha
      simp at hb
      have := h6 x hx
      omega
  · obtain ⟨k', g', cp', _, g2, g3, g4⟩ := h4 e (List.mem_of_getElem? f2)
    rw [f3] at g2
    injection g2 with _ g2
    subst g2
    rw [hG] at g4
    cases g4

/-- A page is struck out. -/
theorem del (h : Dict w b G c) {k : Int} (hk : I64 k) (ty : TypeId) :
    ∃ o, (Builtin.delete_ #[56, 3] ty #[.map (some b), .int .i64 k]).run Tryd.prog w = .ok (.tuple #[]) (setBlock w b o) ∧ Dict (setBlock w b o) b (fun j => if j = k then none else G j) (if (G k).isSome then c - 1 else c) := by
  obtain ⟨es, clock, h1, h2, h3, h4, h5, h6, h7⟩ := h
  have hks := keys ⟨es, clock, h1, h2, h3, h4, h5, h6, h7⟩ h1
  rcases kint.find w (kof hk) es.toList hks with ⟨f1, f2⟩ | ⟨j, e, f1, f2, f3⟩
  · have hn : G k = none := by
      cases hg : G k with
      | none => rfl
      | some g =>
        obtain ⟨x, hx, hx2⟩ := (h5 k g hg).2
        exact absurd hx2 (f2 x hx)
    refine ⟨.map es clock, ?_, es, clock, heap_setBlock_same h1 _, by simp [hn, h2], h3, ?_, ?_, h6, h7⟩
    · simp [Builtin.delete_, run_underlying Tryd.underlying56, MapKept.run_getObj_map h1, kint.check w _ (kof hk), f1, MapKept.run_setObj_map _ h1, Result.andThen, setBlock]
    · intro x hx
      obtain ⟨k', g', cp', a1, a2, a3, a4⟩ := h4 x hx
      refine ⟨k', g', cp', a1, a2, a3, ?_⟩
      dsimp only
      rw [if_neg]
      · exact a4
      · rintro rfl
        exact f2 x hx a2
    · intro k' g' hg'
      dsimp only at hg'
      by_cases e : k' = k
      · rw [if_pos e] at hg'; cases hg'
      · rw [if_neg e] at hg'
        exact h5 k' g' hg'
  · obtain ⟨k0, g0, cp0, _, g2, g3, g4⟩ := h4 e (List.mem_of_getElem? f2)
    rw [f3] at g2
    injection g2 with _ g2
    subst g2
    have hjl : j < es.toList.length := (List.getElem?_eq_some_iff.1 f2).1
    have hjs : j < es.size := by simpa using hjl
    have hsub : (es.eraseIdxIfInBounds j).toList = es.toList.eraseIdx j := by
      unfold Array.eraseIdxIfInBounds
      rw [dif_pos hjs]
      simp
    have hej : es.toList[j] = e := by rw [List.getElem?_eq_getElem hjl] at f2; exact Option.some.inj f2
    have hmem : ∀ x, x ∈ es.toList.eraseIdx j ↔ x ∈ es.toList ∧ x.key ≠ .int .i64 k := by
      intro x
      rw [List.mem_eraseIdx_iff_getElem]
      constructor
      · rintro ⟨i, hi, hne, rfl⟩
        refine ⟨List.getElem_mem hi, ?_⟩
        rw [← f3, ← hej]
        rcases Nat.lt_or_gt_of_ne hne with hl | hl
        · exact List.pairwise_iff_getElem.1 h3 i j hi hjl hl
        · exact (List.pairwise_iff_getElem.1 h3 j i hjl hi hl).symm
      · rintro ⟨hx, hne⟩
        obtain ⟨i, hi, rfl⟩ := List.getElem_of_mem hx
        refine ⟨i, hi, ?_, rfl⟩
        rintro rfl
        rw [hej, f3] at hne
        exact hne rfl
    refine ⟨.map (es.eraseIdxIfInBounds j) clock, ?_, _, clock, heap_setBlock_same h1 _, ?_, ?_, ?_, ?_, ?_, ?_⟩
    · simp [Builtin.delete_, run_underlying Tryd.underlying56, MapKept.run_getObj_map h1, kint.check w _ (kof hk), f1, MapKept.run_setObj_map _ h1, Result.andThen, setBlock]
    · rw [g4]
      have : (es.eraseIdxIfInBounds j).size = (es.toList.eraseIdx j).length := by rw [← hsub, Array.length_toList]
      rw [this, List.length_eraseIdx_of_lt hjl, Array.length_toList, h2]
      rfl
    · rw [hsub]
      exact h3.sublist (List.eraseIdx_sublist _ _)
    · intro x hx
      rw [hsub] at hx
      obtain ⟨hx1, hx2⟩ := (hmem x).1 hx
      obtain ⟨k', g', cp', a1, a2, a3, a4⟩ := h4 x hx1
      refine ⟨k', g', cp', a1, a2, a3, ?_⟩
      dsimp only
      rw [if_neg]
      · exact a4
      · rintro rfl
        exact hx2 a2
    · intro k' g' hg'
      dsimp only at hg'
      by_cases e : k' = k
      · rw [if_pos e] at hg'; cases hg'
      · rw [if_neg e] at hg'
        obtain ⟨a1, x, hx, hx2⟩ := h5 k' g' hg'
        refine ⟨a1, x, ?_, hx2⟩
        rw [hsub, hmem]
        refine ⟨hx, ?_⟩
        rw [hx2]
        intro e2
        injection e2 with _ e2
        exact e e2
    · intro x hx
      rw [hsub] at hx
      exact h6 x ((List.eraseIdx_sublist _ _).subset hx)
    · rw [hsub]
      exact h7.sublist ((List.eraseIdx_sublist _ _).map _)
theorem len (h : Dict w b G c) (ty : TypeId) : (Builtin.len_ #[56] ty #[.map (some b)]).run Tryd.prog w = .ok (.int .i64 c) w := by
  obtain ⟨es, clock, h1, h2, h3, h4, h5, _⟩ := h
  simp [Builtin.len_, run_underlying Tryd.underlying56, MapKept.run_getObj_map h1, goInt, h2, Result.andThen]

/-- Two maps with the same keys have as many entries. -/
theorem same (h : Dict w b G c) {b' c' : Nat} {G' : Int → Option Nat} (h' : Dict w' b' G' c') (hs : ∀ i, (G i).isSome = (G' i).isSome) : c = c' := by
  obtain ⟨es, clock, h1, h2, h3, h4, h5, _⟩ := h
  obtain ⟨es', clock', h1', h2', h3', h4', h5', _⟩ := h'
  have key : ∀ {es es' : Array MapEntry} {G G' : Int → Option Nat}, es.toList.Pairwise (fun x y => x.key ≠ y.key) → (∀ x ∈ es.toList, ∃ k g cp, I64 k ∧ x.key = .int .i64 k ∧ (32 ≤ cp ∧ x.val = sl g cp) ∧ G k = some g) →
      (∀ k g, G' k = some g → I64 k ∧ ∃ x ∈ es'.toList, x.key = .int .i64 k) → (∀ i, (G i).isSome = true → (G' i).isSome = true) → es.size ≤ es'.size := by
    intro es es' G G' p3 p4 p5 ps
    have hl := List.Nodup.length_le_of_subset (l₁ := es.toList.map (·.key)) (l₂ := es'.toList.map (·.key)) (List.pairwise_map.2 p3) (fun v hv => by
      obtain ⟨x, hx, rfl⟩ := List.mem_map.1 hv
      obtain ⟨k, g, cp, _, e1, _, e2⟩ := p4 x hx
      have : (G' k).isSome = true := ps k (by rw [e2]; rfl)
      obtain ⟨g', hg'⟩ := Option.isSome_iff_exists.1 this
      obtain ⟨_, y, hy, hy2⟩ := p5 k g' hg'
      exact List.mem_map.2 ⟨y, hy, by rw [hy2, e1]⟩)
    simpa using hl
  have a1 := key h3 h4 h5' (fun i hi => by rw [← hs]; exact hi)
  have a2 := key h3' h4' h5 (fun i hi => by rw [hs]; exact hi)
  omega
end Dict
end Go.Proofs.YtmalmkccgjeboaaDoor
