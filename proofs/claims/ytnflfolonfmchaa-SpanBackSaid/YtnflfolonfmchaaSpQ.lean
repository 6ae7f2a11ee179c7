/- SpanBack, walked. -/
import Derived.Test.YtnflfolonfmchaaSpT
import Derived.Test.YtnflfolonfmchaaSpN
set_option linter.unusedVariables false
set_option linter.unusedSimpArgs false
namespace Go.Proofs.Ytnflfolonfmchaa
open Go.RowKit

theorem Sp.list_mem {s : Sp} (hg : s.Good) (j : Nat) (hj : j < s.list.length) : ∃ k : Nat, k < s.st.length ∧ s.st.getD k 0 = 1 ∧ s.list.getD j 0 = s.start * 256 + k * s.size := by
  have key : ∀ n, n ≤ s.st.length → ∀ x ∈ s.listTo n, ∃ k : Nat, k < n ∧ s.st.getD k 0 = 1 ∧ x = s.start * 256 + k * s.size := by
    intro n
    induction n with
    | zero => intro _ x hx; simp [Sp.listTo] at hx
    | succ n ih =>
      intro hn x hx
      simp only [Sp.listTo, List.mem_append] at hx
      rcases hx with hx | hx
      · obtain ⟨k, h1, h2⟩ := ih (by omega) x hx
        exact ⟨k, by omega, h2⟩
      · split at hx
        · rename_i h1
          simp at hx
          exact ⟨n, by omega, h1, hx⟩
        · simp at hx
  have hm : s.list.getD j 0 ∈ s.listTo s.st.length := by
    rw [List.getD_eq_getElem?_getD, List.getElem?_eq_getElem hj]
    exact List.getElem_mem hj
  exact key _ (Nat.le_refl _) _ hm

theorem Sp.put_back {s : Sp} {k : Nat} (hk : k < s.st.length) (hv : s.st.getD k 0 = 1) : (s.put k 0).put k 1 = s := by
  have h1 : (s.st.set k 0).set k 1 = s.st := by
    rw [List.set_set]
    apply List.ext_getElem?
    intro i
    rw [List.getElem?_set]
    split
    · rename_i e
      subst e
      rw [List.getElem?_eq_getElem hk]
      rw [List.getD_eq_getElem?_getD, List.getElem?_eq_getElem hk] at hv
      exact congrArg some hv.symm
    · rfl
  have h2 : (s.st.set k 0).getD k 0 = 0 := by simp [List.getD_eq_getElem?_getD, hk]
  unfold Sp.put
  simp only [h1, h2, hv]
  obtain ⟨a, b, c, d, e, f⟩ := s
  simp
  omega
theorem Sp.take_back {s : Sp} {k : Nat} (hk : k < s.st.length) (hv : s.st.getD k 0 = 1) (hn : ∀ j, j < k → s.st.getD j 0 = 1) : (s.put k 0).take = ((s.start * 256 + k * s.size, 0), s) := by
  have hi : idxOf (s.put k 0).st 0 = k := by
    apply idxOf_at (by simpa [Sp.put] using hk) (by simp [Sp.put, List.getD_eq_getElem?_getD, hk])
    intro j hj
    have h1 := hn j hj
    simp only [Sp.put, List.getD_eq_getElem?_getD, List.getElem?_set] at h1 ⊢
    rw [if_neg (by omega), h1]
    decide
  rw [Sp.take_some hi, Sp.put_back hk hv]
  rfl

set_option maxRecDepth 100000 in
set_option maxHeartbeats 8000000 in
theorem SpanBack_walk (w : World) (start : Int) (hs : I64 start) (size pages batch : Int) (_ : I64 size) (_ : I64 pages) (_ : I64 batch) (A : Option Addr) (n c : Nat) (l : List (Int × Int)) (hr : ReadsA w A n l) (hn : n ≤ 9223372036854775807) (v : Int) (hv : 0 ≤ v ∧ v ≤ 255) :
    Grew Try.prog 6 #[.int .i64 start, .agg #[.int .i64 size, .int .i64 pages, .int .i64 batch], .slice A n c, .int .u8 v] w (.bool true) := by
  have b := Blk.new w 23 #[.int .i64 size, .int .i64 pages, .int .i64 batch]
  have ho0 := (Only.refl [] w).alloc (.cells #[.int .i64 size, .int .i64 pages, .int .i64 batch] 23)
  have hr0 := hr.only ho0 (by simp)
  clear hr
  by_cases hg1 : 60 < n
  · have d0 : decide (60 < n) = true := decide_eq_true hg1
    go_enter Try.func6, Try.ntmps6
    go_wp2_with fail
    generalize w.alloc (.cells #[.int .i64 size, .int .i64 pages, .int .i64 batch] 23) = w0 at *
    refine Still.use (great_any w0 A n c hn) ?_
    go_wp2_with (first | (go_at_call 11; refine Grew.use (alive_any w0) (fun w1 ho1 => ?_)))
    go_ret
    exact ⟨rfl, ho0.trans ho1⟩
  · have d0 : decide (60 < n) = false := decide_eq_false hg1
    go_enter Try.func6, Try.ntmps6
    go_wp2_with fail
    generalize w.alloc (.cells #[.int .i64 size, .int .i64 pages, .int .i64 batch] 23) = w0 at *
    refine Still.use (great_any w0 A n c hn) ?_
    have b0 := b.cell_ 0 rfl
    have b1 := b.cell_ 1 rfl
    have b2 := b.cell_ 2 rfl
    go_wp2_with fail
    refine (made_any w0 start size pages batch hs A n c l hr0 (by omega)).mono ?_
    rintro e w1 ⟨hm1, hm2, ho1⟩
    clear b0 b1 b2 d0 hr0
    by_cases hf : Sp.fits start size pages batch
    · obtain ⟨p, q, cap, rfl, hsp, hp, hq⟩ := hm1 hf
      clear hm1 hm2
      have HD0 := Sp.acts_dims (Sp.fresh start size pages batch) l
      have hfs := hf.2.1
      have hfs2 := hf.2.2
      have hfs3 := hf.1.2.2.2.1
      clear hf
      generalize (Sp.fresh start size pages batch).acts l = s at hsp HD0
      have HD2 : Hid (s.start = start ∧ s.size = size) := ⟨HD0.start, HD0.size⟩
      clear HD0
      have hsz := ho0.size
      have hp' : w.heap.size ≤ p := by omega
      have hq' : w.heap.size ≤ q := by omega
      have hl := hsp.good.len
      have hg := Lib.hid hsp.good
      have HBS := Lib.hid s.bits_size
      have hbl : s.bits.size ≤ 128 := by rw [s.bits_size]; exact hl
      have hm1 := hsp.good.many.1
      have hm2 := hsp.good.many.2
      obtain ⟨v0, v1⟩ := hv
      have HLL := Lib.hid (Sp.list_length hg.out)
      by_cases hz : s.many = 0
      · have e0 : (s.many == 0) = true := beq_iff_eq.2 hz
        clear hz
        go_wp2_with (first | (go_at_call 20; refine Still.use (Taken_at hsp) ?_) | (go_at_call 11; refine Grew.use (alive_any w1) (fun w2 ho2 => ?_)))
        go_ret
        exact ⟨rfl, (ho0.trans ho1).trans ho2⟩
      · have e0 : (s.many == 0) = false := beq_eq_false_iff_ne.2 hz
        have hlen : (s.list.length : Int) = s.many := HLL.out
        have hpos : 0 < s.list.length := by omega
        have hll1 : s.list.length ≤ 128 := by omega
        have z0 : ((s.list.length : Int) == 0) = false := beq_eq_false_iff_ne.2 (by omega)
        have hmod0 : 0 ≤ v % (s.list.length : Int) := Int.emod_nonneg _ (by omega)
        have hmod1 : v % (s.list.length : Int) < s.list.length := Int.emod_lt_of_pos _ (by omega)
        obtain ⟨j, hj⟩ := Int.eq_ofNat_of_zero_le hmod0
        have hjl : j < s.list.length := by omega
        obtain ⟨k, hk, hkv, hadr⟩ := Sp.list_mem hg.out j hjl
        have HJ := Lib.hid hj
        have HK := Lib.hid hkv
        have HA := Lib.hid hadr
        clear hj hkv hadr hlen hmod0 hmod1 hz
        go_wp2_with fail
        refine Still.use (Taken_at hsp) ?_
        go_wp2_with fail
        refine (List_at hsp).mono ?_
        rintro e w2 ⟨vv, rfl, hown, ho2⟩
        obtain ⟨g, c3, rfl, hg1, hg2⟩ := own_form hown hpos
        have hsp2 := hsp.only ho2 (by simp) (by simp)
        have bb2 := b.only (ho1.trans ho2) (by simp)
        have hcell : w2.cell? ⟨g, j, none⟩ = some (.int .i64 (start * 256 + k * size)) := by
          rw [hown.cellAt j (by omega), List.getElem?_map, List.getElem?_eq_getElem hjl]
          have := HA.out
          rw [HD2.out.1, HD2.out.2, List.getD_eq_getElem?_getD, List.getElem?_eq_getElem hjl] at this
          show some (Value.int .i64 s.list[j]) = _
          rw [show s.list[j] = start * 256 + k * size from this]
        have hj := HJ.out
        have b0 := bb2.cell_ 0 rfl
        have off1 := hg.out.off (i := (k : Int)) (by omega) (by omega)
        rw [HD2.out.2] at off1
        have pp := hg.out.p2
        obtain ⟨off1, off2⟩ := off1
        go_wp2_with fail
        refine Grew.use (Bits_at hsp2) (fun w3 ho3 => ?_)
        have hsp3 := hsp2.only ho3 (by simp) (by simp)
        have bb3 := bb2.only ho3 (by simp)
        clear b0 hj
        have b0 := bb3.cell_ 0 rfl
        have hdiv : (start * 256 + (k : Int) * size - start * 256) / size = k := by
          rw [show start * 256 + (k : Int) * size - start * 256 = k * size by omega, Int.mul_ediv_cancel _ (by have := hg.out.s1; rw [HD2.out.2] at this; omega)]
        have hobj : s.obj (start * 256 + (k : Int) * size) = ((k : Int), (0 : Int)) := by
          have h1 := idx_of_obj hg.out (i := (k : Int)) (m := 0) (by omega) (by omega) (by omega) (by have := hg.out.s1; omega)
          rw [HD2.out.1, HD2.out.2, Int.add_zero] at h1
          rw [Sp.obj_yes (by rw [h1]) (by rw [h1, HD2.out.1, HD2.out.2]), h1]
        have hput : s.free (start * 256 + (k : Int) * size) = (0, s.put k 0) := by
          rw [Sp.free_yes hobj (by rw [Int.toNat_natCast, HK.out]; decide), Int.toNat_natCast]
        have hput2 : (s.put k 0).free (start * 256 + (k : Int) * size) = (9, s.put k 0) := by
          have h2 : (s.put k 0).obj (start * 256 + (k : Int) * size) = ((k : Int), (0 : Int)) := by
            have hgp := hg.out.put hk (v := 0) (.inl rfl)
            have h1 := idx_of_obj hgp (i := (k : Int)) (m := 0) (by omega) (by simp [Sp.put]; omega) (by omega) (by have := hgp.s1; omega)
            rw [show (s.put k 0).start = start from HD2.out.1, show (s.put k 0).size = size from HD2.out.2, Int.add_zero] at h1
            rw [Sp.obj_yes (by rw [h1]) (by rw [h1]; show s.start * 256 + (k : Int) * s.size = _; rw [HD2.out.1, HD2.out.2]), h1]
          exact Sp.free_twice h2 (by simp [Sp.put, List.getD_eq_getElem?_getD, hk])
        have P1 := Put_at hsp3 (start * 256 + (k : Int) * size) (by omega) (by omega)
        rw [hput] at P1
        have P2 := fun (w4 : World) (h4 : SpanAt w4 p q cap (s.put k 0)) => Put_at h4 (start * 256 + (k : Int) * size) (by omega) (by omega)
        rw [hput2] at P2
        have PH1 := Lib.hid P1
        have PH2 := Lib.hid P2
        have HDV := Lib.hid hdiv
        clear P1 P2 hput hput2 hobj hdiv
        have hs1 := hg.out.s1
        rw [HD2.out.2] at hs1
        have szz : (size == 0) = false := beq_eq_false_iff_ne.2 (by omega)
        have e4 : ((s.put k 0).many != ((s.list.length : Int) - 1)) = false := bne_eq_false_iff_eq.2 (by rw [HLL.out]; show s.many + (0 - s.st.getD k 0) = _; rw [HK.out]; omega)
        go_wp2_with fail
        rw [HDV.out]
        refine PH1.out.mono ?_
        rintro e w4 ⟨rfl, h4, ho4⟩
        go_wp2_with fail
        refine Still.use (Taken_at h4) ?_
        go_wp2_with fail
        refine (PH2.out w4 h4).mono ?_
        rintro e w5 ⟨rfl, h5, ho5⟩
        have hkb : k < s.bits.size := by rw [HBS.out]; exact hk
        have hoA := only_pq (ho0.trans (ho1.trans (ho2.trans ho3))) (ho4.trans ho5) hp' hq'
        go_wp2_with fail
        go_loop [14] (fun t => ∃ i : Nat, i ≤ k ∧ t = .int .i64 i ∧ Hid (∀ j, j < i → s.st.getD j 0 = 1)) (fun t => k - (intOf t).toNat)
        case atStart => exact ⟨0, Nat.zero_le _, rfl, fun j hj => absurd hj (by omega)⟩
        case round =>
          obtain ⟨i, hi, rfl, HN⟩ := hrel
          by_cases hlt : i < k
          · have hib : i < s.bits.size := by omega
            have hby := Sp.bits_at hg.out i hib
            rcases hg.out.bits i (by omega) with hv | hv
            · have e1 : (((s.bits[i]'hib).toNat : Int) == 48) = true := by rw [hby, hv]; rfl
              clear hby hv
              go_wp2_with (first | (go_at_call 11; refine Grew.use (alive_any w5) (fun w6 ho6 => ?_)))
              go_ret
              exact ⟨rfl, hoA.trans ho6⟩
            · have e1 : (((s.bits[i]'hib).toNat : Int) == 48) = false := by rw [hby, hv]; rfl
              have HN' : Hid (∀ j, j < i + 1 → s.st.getD j 0 = 1) := fun j hj => by
                rcases Nat.lt_or_ge j i with h | h
                · exact HN.out j h
                · rw [show j = i by omega]; exact hv
              clear hby hv
              go_wp2
              go_round
              case rel => exact ⟨i + 1, by omega, by go_num, HN'⟩
              case measure => simp [intOf]; omega
          · have e : i = k := by omega
            subst e
            have T := Take_at h5
            rw [Sp.take_back hk HK.out HN.out, HD2.out.1, HD2.out.2] at T
            have TH := Lib.hid T
            clear T
            go_wp2_with (first | (go_at_call 22; refine TH.out.mono ?_; rintro e w6 ⟨rfl, h6, ho6⟩) | (go_at_call 18; refine Grew.use (Bits_at h6) (fun w7 ho7 => ?_)) | (go_at_call 11; refine Grew.use (alive_any w7) (fun w8 ho8 => ?_)))
            go_ret
            exact ⟨rfl, ((only_pq hoA ho6 hp' hq').trans ho7).trans ho8⟩
    · have he := hm2 hf
      subst he
      clear hm1 hm2 hf
      go_wp2_with (first | (go_at_call 11; refine Grew.use (alive_any w1) (fun w2 ho2 => ?_)))
      go_ret
      exact ⟨rfl, (ho0.trans ho1).trans ho2⟩
end Go.Proofs.Ytnflfolonfmchaa
