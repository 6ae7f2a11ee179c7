/- The objects that are taken: plain. -/
import Derived.Test.YtlmjelcnldlagaaZMC
set_option linter.unusedVariables false
set_option linter.unusedSimpArgs false
namespace Go.Proofs.Ytlmjelcnldlagaa
open Go.RowKit

/-- An object of a span is taken. -/
def TK (c : Cl) (M : List Sp) (a : Int) : Prop := ∃ s ∈ M, ∃ k : Nat, k < s.st.length ∧ s.st.getD k 0 = 1 ∧ a = s.start * 256 + k * c.size
theorem TK.at_ {c : Cl} {M : List Sp} {a : Int} : TK c M a ↔ ∃ i k : Nat, i < M.length ∧ k < (sAt M i).st.length ∧ (sAt M i).st.getD k 0 = 1 ∧ a = (sAt M i).start * 256 + k * c.size := by
  constructor
  · rintro ⟨s, hs, k, h⟩
    obtain ⟨i, hi, rfl⟩ := List.getElem_of_mem hs
    refine ⟨i, k, hi, ?_⟩
    rw [sAt, List.getD_eq_getElem?_getD, List.getElem?_eq_getElem hi]
    exact h
  · rintro ⟨i, k, hi, h⟩
    exact ⟨_, sAt_mem hi, k, h⟩
theorem tk_iff {c : Cl} {M : List Sp} (hg : GoodL c M) (a : Int) : isTk M a = (true, 0) ↔ TK c M a := by
  constructor
  · intro h
    obtain ⟨j, j1, j2, j3, j4⟩ := isTk_yes h
    obtain ⟨r1, r2, _⟩ := Sp.obj_range (hg.sp j j2).1 a
    refine TK.at_.2 ⟨j, ((sAt M j).obj a).1.toNat, j2, by omega, j4, ?_⟩
    have := Sp.obj_addr j3
    rw [(hg.sp j j2).2.1] at this
    rw [Int.toNat_of_nonneg r1]
    exact this.symm
  · intro h
    obtain ⟨i, k, hi, hk, h1, rfl⟩ := TK.at_.1 h
    rw [hg.tk_obj hi hk, h1]
    rfl
theorem obj_inj {c : Cl} {M : List Sp} (hg : GoodL c M) {i j k m : Nat} (hi : i < M.length) (hk : k < (sAt M i).st.length) (hj : j < M.length) (hm : m < (sAt M j).st.length) (h : (sAt M i).start * 256 + (k : Int) * c.size = (sAt M j).start * 256 + (m : Int) * c.size) : i = j ∧ k = m := by
  have h1 := hg.of_obj hi hk
  have h2 := hg.of_obj hj hm
  rw [← h] at h2
  have e : some i = some j := h1.1.symm.trans h2.1
  injection e with e
  subst e
  have e2 := h1.2.symm.trans h2.2
  injection e2 with e2
  exact ⟨rfl, by omega⟩
theorem put_getD (s : Sp) (k : Nat) (v : Int) (m : Nat) (hk : k < s.st.length) : (s.put k v).st.getD m 0 = if k = m then v else s.st.getD m 0 := by
  simp only [Sp.put, List.getD_eq_getElem?_getD, List.getElem?_set]
  by_cases h : k = m
  · subst h; simp [hk]
  · simp [h]
theorem put_len (s : Sp) (k : Nat) (v : Int) : (s.put k v).st.length = s.st.length := by simp [Sp.put]
theorem TK_set {c : Cl} {M : List Sp} (hg : GoodL c M) {i k : Nat} (hi : i < M.length) (hk : k < (sAt M i).st.length) (v : Int) (a : Int) :
    TK c (M.set i ((sAt M i).put k v)) a ↔ if a = (sAt M i).start * 256 + k * c.size then v = 1 else TK c M a := by
  constructor
  · intro h
    obtain ⟨j, m, hj, hm, h1, rfl⟩ := TK.at_.1 h
    rw [List.length_set] at hj
    rw [sAt_set _ hi] at hm h1 ⊢
    by_cases e : i = j
    · subst e
      rw [if_pos rfl] at hm h1 ⊢
      rw [put_len] at hm
      rw [put_getD _ _ _ _ hk] at h1
      show if (sAt M i).start * 256 + m * c.size = (sAt M i).start * 256 + k * c.size then v = 1 else TK c M ((sAt M i).start * 256 + m * c.size)
      by_cases e2 : k = m
      · subst e2
        rw [if_pos rfl] at h1
        rw [if_pos rfl]
        exact h1
      · rw [if_neg e2] at h1
        rw [if_neg (fun h => e2 (obj_inj hg hi hk hi hm h.symm).2)]
        exact TK.at_.2 ⟨i, m, hi, hm, h1, rfl⟩
    · rw [if_neg e] at hm h1 ⊢
      rw [if_neg (fun h => e (obj_inj hg hi hk hj hm h.symm).1)]
      exact TK.at_.2 ⟨j, m, hj, hm, h1, rfl⟩
  · intro h
    by_cases e : a = (sAt M i).start * 256 + k * c.size
    · rw [if_pos e] at h
      subst h
      refine TK.at_.2 ⟨i, k, by rw [List.length_set]; exact hi, ?_⟩
      rw [sAt_set _ hi, if_pos rfl, put_len, put_getD _ _ _ _ hk, if_pos rfl]
      exact ⟨hk, rfl, e⟩
    · rw [if_neg e] at h
      obtain ⟨j, m, hj, hm, h1, rfl⟩ := TK.at_.1 h
      refine TK.at_.2 ⟨j, m, by rw [List.length_set]; exact hj, ?_⟩
      rw [sAt_set _ hi]
      by_cases e1 : i = j
      · subst e1
        have e2 : k ≠ m := fun h => e (by rw [h])
        rw [if_pos rfl, put_len, put_getD _ _ _ _ hk, if_neg e2]
        exact ⟨hm, h1, rfl⟩
      · rw [if_neg e1]
        exact ⟨hm, h1, rfl⟩

theorem GoodL.of_like {c : Cl} {M N : List Sp} (hg : GoodL c M) (hl : Like N M) (h : ∀ j, j < M.length → (sAt N j).Good) : GoodL c N := by
  refine ⟨hg.ok, fun j hj => ?_, fun k j hkj hj => ?_, by rw [hl.1]; exact hg.len⟩
  · have hj' : j < M.length := by rw [← hl.1]; exact hj
    have h1 := hl.2 j hj
    exact ⟨h j hj', h1.2.1.trans (hg.sp j hj').2.1, h1.2.2.1.trans (hg.sp j hj').2.2.1, h1.2.2.2.1.trans (hg.sp j hj').2.2.2⟩
  · have h1 := hl.2 k (by omega)
    have h2 := hl.2 j hj
    rw [h1.1, h1.2.2.1, h2.1]
    exact hg.ord k j hkj (by rw [← hl.1]; exact hj)

theorem TK_take {c : Cl} {M : List Sp} {b : Nat} (hg : GoodL c M) (hb : bestTo M M.length = some b) : GoodL c (M.set b (sAt M b).take.2) ∧ ¬ TK c M (sAt M b).take.1.1 ∧ ∀ a, TK c (M.set b (sAt M b).take.2) a ↔ a = (sAt M b).take.1.1 ∨ TK c M a := by
  obtain ⟨hl, hr⟩ := bestTo_lt _ _ _ hb
  obtain ⟨kk, i1, i2, i3, i4⟩ := Sp.take_room (hg.sp b hl).1 hr
  have hs := (hg.sp b hl).2.1
  refine ⟨hg.of_like ((Like.refl M).set (Sp.take_like _)) (fun j hj => ?_), ?_⟩
  · rw [sAt_set _ hl, i4]
    split
    · exact (hg.sp b hl).1.put i2 (.inr rfl)
    · exact (hg.sp j hj).1
  rw [i4]
  dsimp only
  rw [hs]
  constructor
  · intro h
    obtain ⟨j, m, hj, hm, h1, h2⟩ := TK.at_.1 h
    obtain ⟨e1, e2⟩ := obj_inj hg hl i2 hj hm h2
    subst e1 e2
    rw [i3] at h1
    cases h1
  · intro a
    rw [TK_set hg hl i2]
    by_cases e : a = (sAt M b).start * 256 + kk * c.size
    · rw [if_pos e]; exact ⟨fun _ => .inl e, fun _ => rfl⟩
    · rw [if_neg e]; exact ⟨fun h => .inr h, fun h => h.resolve_left e⟩

theorem TK_free {c : Cl} {M : List Sp} (hg : GoodL c M) {a : Int} (ha : isTk M a = (true, 0)) : (∀ b, TK c (freeOne M a) b ↔ b ≠ a ∧ TK c M b) ∧ manyOf (freeOne M a) + 1 = manyOf M := by
  obtain ⟨i, i1, i2, i3, i4⟩ := isTk_yes ha
  obtain ⟨r1, r2, _⟩ := Sp.obj_range (hg.sp i i2).1 a
  have hk : ((sAt M i).obj a).1.toNat < (sAt M i).st.length := by omega
  have e0 := Sp.obj_addr i3
  rw [(hg.sp i i2).2.1] at e0
  have e : freeOne M a = M.set i ((sAt M i).put ((sAt M i).obj a).1.toNat 0) := by
    unfold freeOne
    rw [i1]
    show M.set i ((sAt M i).free a).2 = _
    rw [Sp.free_ok i3 i4]
  rw [e]
  constructor
  · intro b
    rw [TK_set hg i2 hk, Int.toNat_of_nonneg r1, e0]
    by_cases e1 : b = a
    · rw [if_pos e1]; exact ⟨fun h => by omega, fun h => absurd e1 h.1⟩
    · rw [if_neg e1]; exact ⟨fun h => ⟨e1, h⟩, fun h => h.2⟩
  · dsimp only [manyOf]
    rw [List.length_set, manyTo_set _ i2, if_pos i2]
    show _ + ((sAt M i).many + (0 - (sAt M i).st.getD ((sAt M i).obj a).1.toNat 0) - (sAt M i).many) + 1 = _
    rw [i4]
    omega

theorem Sp.Good.many_pos {s : Sp} (h : s.Good) {k : Nat} (hk : k < s.st.length) (h1 : s.st.getD k 0 = 1) : 1 ≤ s.many := by
  have := (h.put hk (v := 0) (.inl rfl)).many.1
  have e : (s.put k 0).many = s.many + (0 - s.st.getD k 0) := rfl
  rw [e, h1] at this
  omega
theorem GoodL.mem {c : Cl} {M : List Sp} (hg : GoodL c M) {s : Sp} (hs : s ∈ M) : s.Good := by
  obtain ⟨i, hi, rfl⟩ := List.getElem_of_mem hs
  have := (hg.sp i hi).1
  rw [sAt, List.getD_eq_getElem?_getD, List.getElem?_eq_getElem hi] at this
  exact this
theorem TK_kept {c : Cl} {M : List Sp} (hg : GoodL c M) (a : Int) : TK c (keptOf M) a ↔ TK c M a := by
  constructor
  · rintro ⟨s, hs, h⟩
    exact ⟨s, (List.mem_filter.1 hs).1, h⟩
  · rintro ⟨s, hs, k, hk, h1, h2⟩
    refine ⟨s, List.mem_filter.2 ⟨hs, ?_⟩, k, hk, h1, h2⟩
    have := (hg.mem hs).many_pos hk h1
    simp
    omega
theorem TK_add {c : Cl} {M : List Sp} (x a : Int) : TK c (addM M c x) a ↔ TK c M a := by
  unfold addM
  split
  · constructor
    · rintro ⟨s, hs, k, hk, h1, h2⟩
      simp at hs
      rcases hs with hs | rfl | hs
      · exact ⟨s, List.mem_of_mem_take hs, k, hk, h1, h2⟩
      · exfalso
        simp [Sp.fresh, List.getD_eq_getElem?_getD, List.getElem?_replicate] at h1
        split at h1 <;> simp at h1
      · exact ⟨s, List.mem_of_mem_drop hs, k, hk, h1, h2⟩
    · rintro ⟨s, hs, h⟩
      refine ⟨s, ?_, h⟩
      rw [← List.take_append_drop (posTo M x M.length) M] at hs
      rcases List.mem_append.1 hs with h | h
      · simp [h]
      · simp [h]
  · exact Iff.rfl

theorem manyTo_eq (M : List Sp) (k : Nat) (hk : k ≤ M.length) : manyTo M k = ((M.take k).map Sp.many).sum := by
  induction k with
  | zero => simp [manyTo]
  | succ k ih =>
    rw [manyTo, ih (by omega), List.take_succ_eq_append_getElem (by omega), List.map_append, List.sum_append]
    simp [sAt, List.getD_eq_getElem?_getD, List.getElem?_eq_getElem (show k < M.length by omega)]
theorem manyOf_eq (M : List Sp) : manyOf M = (M.map Sp.many).sum := by
  rw [manyOf, manyTo_eq _ _ (Nat.le_refl _), List.take_length]
theorem many_kept (M : List Sp) : manyOf (keptOf M) = manyOf M := by
  rw [manyOf_eq, manyOf_eq]
  induction M with
  | nil => rfl
  | cons s M ih =>
    simp only [keptOf] at ih ⊢
    by_cases h : s.many = 0
    · rw [List.filter_cons_of_neg (by simp [h]), ih, List.map_cons, List.sum_cons, h]; omega
    · rw [List.filter_cons_of_pos (by simp [h]), List.map_cons, List.sum_cons, ih, List.map_cons, List.sum_cons]
theorem many_add (c : Cl) (M : List Sp) (x : Int) : manyOf (addM M c x) = manyOf M := by
  rw [manyOf_eq, manyOf_eq]
  unfold addM
  split
  · have h := congrArg (fun l => (l.map Sp.many).sum) (List.take_append_drop (posTo M x M.length) M)
    simp only [List.map_append, List.sum_append] at h
    simp only [List.map_append, List.sum_append, List.map_cons, List.map_nil, List.sum_cons, List.sum_nil]
    have : (Sp.fresh x c.size c.pages c.batch).many = 0 := rfl
    rw [this]
    omega
  · rfl
theorem room_many {c : Cl} {M : List Sp} (hg : GoodL c M) : roomOf M + manyOf M = M.length * (c.pages * 256 / c.size) := by
  have key : ∀ k : Nat, k ≤ M.length → roomTo M k + manyTo M k = k * (c.pages * 256 / c.size) := by
    intro k
    induction k with
    | zero => intro _; simp [roomTo, manyTo]
    | succ k ih =>
      intro hk
      have h1 := ih (by omega)
      have h2 := hg.objs (show k < M.length by omega)
      rw [roomTo, manyTo, Int.natCast_succ, Int.add_mul, ← h1, ← h2]
      omega
  exact key _ (Nat.le_refl _)

theorem len_ne {l : List Int} (h : l.Nodup) {a : Int} (ha : a ∈ l) : (l.filter (fun x => decide (x ≠ a))).length + 1 = l.length := by
  induction l with
  | nil => cases ha
  | cons x l ih =>
    rw [List.nodup_cons] at h
    by_cases e : x = a
    · subst e
      have e : l.filter (fun y => decide (y ≠ x)) = l := List.filter_eq_self.2 (fun y hy => decide_eq_true (fun (e : y = x) => h.1 (by rw [← e]; exact hy)))
      rw [List.filter_cons_of_neg (by simp), e]
      rfl
    · rw [List.filter_cons_of_pos (by simpa using e)]
      have := ih h.2 (by
        rcases List.mem_cons.1 ha with h | h
        · exact absurd h.symm e
        · exact h)
      simp only [List.length_cons]
      omega

/-- The taken objects, each once. -/
structure Once (c : Cl) (M : List Sp) (O : List Int) : Prop where
  nd : O.Nodup
  tk : ∀ a, a ∈ O ↔ TK c M a
  cnt : manyOf M = O.length
theorem Once.nil (c : Cl) : Once c [] [] := ⟨List.nodup_nil, fun a => Iff.intro (fun h => absurd h (by simp)) (fun h => by obtain ⟨s, hs, _⟩ := h; exact absurd hs (by simp)), rfl⟩
theorem Once.kept {c : Cl} {M : List Sp} {O : List Int} (hg : GoodL c M) (h : Once c M O) : Once c (keptOf M) O := ⟨h.nd, fun a => (h.tk a).trans (TK_kept hg a).symm, (many_kept M).trans h.cnt⟩
theorem Once.add {c : Cl} {M : List Sp} {O : List Int} (h : Once c M O) (x : Int) : Once c (addM M c x) O := ⟨h.nd, fun a => (h.tk a).trans (TK_add x a).symm, (many_add c M x).trans h.cnt⟩
theorem Once.takes {c : Cl} {M : List Sp} {O : List Int} (hg : GoodL c M) (h : Once c M O) (m : Nat) : GoodL c (takesTo M m).2 ∧ Once c (takesTo M m).2 (O ++ (takesTo M m).1) := by
  induction m with
  | zero =>
    refine ⟨hg, ?_⟩
    show Once c M (O ++ [])
    rw [List.append_nil]
    exact h
  | succ m ih =>
    obtain ⟨i1, i2⟩ := ih
    cases hok : (one7 (takesTo M m).2).1.2 with
    | false => rw [takesTo, if_neg (by rw [hok]; decide)]; exact ⟨i1, i2⟩
    | true =>
      rw [takesTo_more hok]
      have hm := i1.one_many hok
      obtain ⟨b, hb, he⟩ := one7_some hok
      obtain ⟨g1, g2, g3⟩ := TK_take i1 hb
      rw [he] at hm ⊢
      dsimp only at hm ⊢
      refine ⟨g1, ?_⟩
      rw [← List.append_assoc]
      refine ⟨?_, fun a => ?_, ?_⟩
      · rw [List.nodup_append]
        refine ⟨i2.nd, by simp, fun x hx y hy e => ?_⟩
        simp at hy
        subst hy e
        exact g2 ((i2.tk _).1 hx)
      · rw [g3, ← i2.tk]
        rw [List.mem_append (s := _ ++ _)]
        simp only [List.mem_singleton]
        exact Or.comm
      · rw [hm, i2.cnt]
        simp only [List.length_append, List.length_cons, List.length_nil]
        omega
theorem Once.free {c : Cl} {M : List Sp} {O : List Int} (hg : GoodL c M) (h : Once c M O) (o : List Int) (h1 : badTo M o o.length = false) (h2 : twiceTo M o o.length = false) (k : Nat) (hk : k ≤ o.length) : Once c (freeTo M o k) (O.filter (fun x => decide (x ∉ o.take k))) := by
  induction k with
  | zero =>
    rw [List.filter_eq_self.2 (fun x _ => by simp)]
    exact h
  | succ k ih =>
    have i := ih (by omega)
    obtain ⟨g1, g2⟩ := freeTo_tk hg k (by omega) h1 h2
    have ha := g2 k (Nat.le_refl _) (by omega)
    obtain ⟨f1, f2⟩ := TK_free g1 ha
    have hin : iAt o k ∈ O.filter (fun x => decide (x ∉ o.take k)) := (i.tk _).2 ((tk_iff g1 _).1 ha)
    have e : O.filter (fun x => decide (x ∉ o.take (k + 1))) = (O.filter (fun x => decide (x ∉ o.take k))).filter (fun x => decide (x ≠ iAt o k)) := by
      rw [List.filter_filter]
      apply List.filter_congr
      intro x _
      have e2 : o.take (k + 1) = o.take k ++ [iAt o k] := by
        rw [List.take_succ_eq_append_getElem (by omega)]
        simp [List.getD_eq_getElem?_getD, List.getElem?_eq_getElem (show k < o.length by omega)]
      rw [e2]
      by_cases a1 : x ∈ o.take k <;> by_cases a2 : x = iAt o k <;> simp [a1, a2]
    rw [e]
    refine ⟨i.nd.filter _, fun a => ?_, ?_⟩
    · rw [List.mem_filter]
      show _ ↔ TK c (freeOne (freeTo M o k) (iAt o k)) a
      rw [f1, ← i.tk]
      constructor
      · rintro ⟨a1, a2⟩; exact ⟨of_decide_eq_true a2, a1⟩
      · rintro ⟨a1, a2⟩; exact ⟨a2, decide_eq_true a1⟩
    · show manyOf (freeOne (freeTo M o k) (iAt o k)) = _
      have := len_ne i.nd hin
      have := i.cnt
      omega
theorem Once.act {c : Cl} {M : List Sp} {O : List Int} (hg : GoodL c M) (h : Once c M O) (x : Ac7) (h1 : x.k ≠ 1) (h2 : x.k = 2 → actE c M x ≠ 0) : Once c (actM c M x) O := by
  by_cases k2 : x.k = 2
  · rw [act_err (h2 k2)]; exact h
  · unfold actM
    by_cases k0 : x.k = 0
    · rw [if_pos k0]; exact h.add _
    · rw [if_neg k0, if_neg h1, if_neg k2]
      split
      · exact h.kept hg
      · exact h
theorem Once.put {c : Cl} {M : List Sp} {O : List Int} (hg : GoodL c M) (h : Once c M O) (x : Ac7) (h1 : x.k = 2) (h2 : actE c M x = 0) : Once c (actM c M x) (O.filter (fun y => decide (y ∉ x.o))) := by
  have e1 : actE c M x = putE M x.o := by unfold actE; rw [h1]; rfl
  have e2 : actM c M x = putM M x.o := by unfold actM; rw [h1]; rfl
  rw [e1] at h2
  rw [e2, putM, if_pos h2]
  have hb : badTo M x.o x.o.length = false ∧ twiceTo M x.o x.o.length = false := by
    unfold putE at h2
    cases b1 : badTo M x.o x.o.length with
    | true => rw [b1] at h2; cases h2
    | false =>
      cases b2 : twiceTo M x.o x.o.length with
      | true => rw [b1, b2] at h2; cases h2
      | false => exact ⟨rfl, rfl⟩
  have := h.free hg x.o hb.1 hb.2 x.o.length (Nat.le_refl _)
  rw [List.take_length] at this
  exact this.kept (freeTo_tk hg _ (Nat.le_refl _) hb.1 hb.2).1
theorem nodup_at {l : List Int} (h : l.Nodup) {k : Nat} (hk : k < l.length) : iAt l k ∉ l.take k := by
  intro hm
  have : (l.take (k + 1)).Nodup := h.sublist (List.take_sublist _ _)
  rw [List.take_succ_eq_append_getElem hk, List.nodup_append] at this
  refine this.2.2 _ hm l[k] (by simp) ?_
  simp [List.getD_eq_getElem?_getD, List.getElem?_eq_getElem hk]
end Go.Proofs.Ytlmjelcnldlagaa
