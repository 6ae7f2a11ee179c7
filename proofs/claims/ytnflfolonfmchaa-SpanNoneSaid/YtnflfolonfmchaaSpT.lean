/- SpanTakes, walked. -/
import Derived.Test.YtnflfolonfmchaaSpO
set_option linter.unusedVariables false
set_option linter.unusedSimpArgs false
namespace Go.Proofs.Ytnflfolonfmchaa
open Go.RowKit

theorem Sp.bits_size (s : Sp) : s.bits.size = s.st.length := by unfold Sp.bits; rw [strOfNums_size, List.length_map]
theorem Sp.bits_at {s : Sp} (hg : s.Good) (k : Nat) (h : k < s.bits.size) : ((s.bits[k]'h).toNat : Int) = 48 + s.st.getD k 0 := by
  have hk : k < s.st.length := by rwa [s.bits_size] at h
  have hb := hg.bits k hk
  have e : s.bits[k]'h = UInt8.ofNat (48 + s.st.getD k 0).toNat := by
    have h1 : s.bits.data.toList[k]? = some (UInt8.ofNat (48 + s.st.getD k 0).toNat) := by
      unfold Sp.bits
      rw [strOfNums_data]
      simp [List.getElem?_map, List.getElem?_eq_getElem hk, List.getD_eq_getElem?_getD]
    have h2 : s.bits.data.toList[k]? = some (s.bits[k]'h) := by
      rw [Array.getElem?_toList]
      exact Array.getElem?_eq_getElem _
    rw [h1] at h2
    injection h2 with h2
    exact h2.symm
  rw [e]
  rcases hb with hb | hb <;> rw [hb] <;> rfl

theorem sum_take_succ (l : List Int) (k : Nat) (hk : k < l.length) : (l.take (k + 1)).sum = (l.take k).sum + l.getD k 0 := by
  rw [List.take_succ_eq_append_getElem hk, List.sum_append]
  simp [List.getD_eq_getElem?_getD, List.getElem?_eq_getElem hk]
theorem idxOf_snoc (l : List Int) (x v : Int) : idxOf (l ++ [x]) v = if idxOf l v < 0 then (if x = v then (l.length : Int) else -1) else idxOf l v := by
  unfold idxOf
  rw [List.findIdx?_append]
  cases hf : l.findIdx? (· == v) with
  | some k =>
    simp
    intro h
    omega
  | none =>
    simp [List.findIdx?_cons]
    by_cases hx : x = v <;> simp [hx]
theorem idxOf_take_succ (l : List Int) (v : Int) (k : Nat) (hk : k < l.length) : idxOf (l.take (k + 1)) v = if idxOf (l.take k) v < 0 then (if l.getD k 0 = v then (k : Int) else -1) else idxOf (l.take k) v := by
  rw [List.take_succ_eq_append_getElem hk, idxOf_snoc, List.length_take, Nat.min_eq_left (by omega)]
  simp [List.getD_eq_getElem?_getD, List.getElem?_eq_getElem hk]
theorem Sp.list_length {s : Sp} (hg : s.Good) : (s.list.length : Int) = s.many := by
  have key : ∀ k, k ≤ s.st.length → ((s.listTo k).length : Int) = (s.st.take k).sum := by
    intro k
    induction k with
    | zero => intro _; simp [Sp.listTo]
    | succ k ih =>
      intro hk
      have h1 := ih (by omega)
      have h2 := hg.bits k (by omega)
      rw [sum_take_succ _ _ (by omega), ← h1]
      simp only [Sp.listTo, List.length_append]
      rcases h2 with h2 | h2 <;> rw [h2] <;> simp
  rw [Sp.list, key _ (Nat.le_refl _), List.take_length, hg.cnt]

theorem put_string (l : List Int) (k : Nat) (hk : k < l.length) : (strOfNums (l.map (48 + ·))).extract 0 k ++ ⟨#[49]⟩ ++ (strOfNums (l.map (48 + ·))).extract (k + 1) (strOfNums (l.map (48 + ·))).size = strOfNums ((l.set k 1).map (48 + ·)) := by
  apply ByteArray.ext
  rw [ByteArray.data_append, ByteArray.data_append, ByteArray.data_extract, ByteArray.data_extract]
  apply Array.toList_inj.1
  rw [Array.toList_append, Array.toList_append, Array.toList_extract, Array.toList_extract, strOfNums_data, strOfNums_data, strOfNums_size]
  simp only [List.extract_eq_take_drop, List.drop_zero, Nat.sub_zero, List.length_map]
  rw [List.map_set, List.map_set, List.set_eq_take_append_cons_drop, if_pos (by simpa using hk)]
  rw [List.take_of_length_le (i := l.length - (k + 1)) (by simp)]
  simp
/-- 't[:k] + "1" + t[k+1:]', step by step. -/
theorem cut_string {s : Sp} (k : Nat) (hk : k < s.st.length) (hl : s.st.length ≤ 128) : ∃ L1 M1 L2 : ByteArray,
    (∀ W, (Instr.slice 9 (.string s.bits) none (some (.int .i64 (k : Int))) none).run Try.prog W = .ok (.string L1) W) ∧
    (∀ W, (Instr.slice 9 (.string s.bits) (some (.int .i64 ((k : Int) + 1))) none none).run Try.prog W = .ok (.string L2) W) ∧
    (∀ W, (Op.stringOp .add L1 ⟨#[49]⟩).run Try.prog W = .ok (.string M1) W) ∧ (∀ W, (Op.stringOp .add M1 L2).run Try.prog W = .ok (.string (s.put k 1).bits) W) := by
  have hz := s.bits_size
  refine ⟨s.bits.extract 0 k, s.bits.extract 0 k ++ ⟨#[49]⟩, s.bits.extract (k + 1) s.bits.size, fun W => ?_, fun W => ?_, fun W => ?_, fun W => ?_⟩
  · rw [run_slice_string_to_if W _ _ _ _ Try.underlying9, if_pos (by omega)]
    simp
  · rw [run_slice_string_from_if W _ _ _ _ Try.underlying9, if_pos (by omega)]
    rw [show ((k : Int) + 1).toNat = k + 1 by omega]
  · exact run_string_add_sum W _ _ (by rw [ByteArray.size_extract, show (ByteArray.mk #[49]).size = 1 from rfl]; omega)
  · have := put_string s.st k hk
    rw [show (s.put k 1).bits = strOfNums ((s.st.set k 1).map (48 + ·)) from rfl, ← this]
    exact run_string_add_sum W _ _ (by rw [ByteArray.size_append, ByteArray.size_extract, ByteArray.size_extract, hz, show (ByteArray.mk #[49]).size = 1 from rfl]; omega)

set_option maxRecDepth 100000 in
set_option maxHeartbeats 8000000 in
theorem SpanTakes_walk (w : World) (start : Int) (hs : I64 start) (size pages batch : Int) (_ : I64 size) (_ : I64 pages) (_ : I64 batch) (A : Option Addr) (n c : Nat) (l : List (Int × Int)) (hr : ReadsA w A n l) (hn : n ≤ 9223372036854775807) :
    Grew Try.prog 5 #[.int .i64 start, .agg #[.int .i64 size, .int .i64 pages, .int .i64 batch], .slice A n c] w (.bool true) := by
  have b := Blk.new w 23 #[.int .i64 size, .int .i64 pages, .int .i64 batch]
  have ho0 := (Only.refl [] w).alloc (.cells #[.int .i64 size, .int .i64 pages, .int .i64 batch] 23)
  have hr0 := hr.only ho0 (by simp)
  clear hr
  by_cases hg1 : 60 < n
  · have d0 : decide (60 < n) = true := decide_eq_true hg1
    go_enter Try.func5, Try.ntmps5
    go_wp2_with fail
    generalize w.alloc (.cells #[.int .i64 size, .int .i64 pages, .int .i64 batch] 23) = w0 at *
    refine Still.use (great_any w0 A n c hn) ?_
    go_wp2_with (first | (go_at_call 11; refine Grew.use (alive_any w0) (fun w1 ho1 => ?_)))
    go_ret
    exact ⟨rfl, ho0.trans ho1⟩
  · have d0 : decide (60 < n) = false := decide_eq_false hg1
    go_enter Try.func5, Try.ntmps5
    go_wp2_with fail
    generalize w.alloc (.cells #[.int .i64 size, .int .i64 pages, .int .i64 batch] 23) = w0 at *
    refine Still.use (great_any w0 A n c hn) ?_
    have b0 := b.cell_ 0 rfl
    have b1 := b.cell_ 1 rfl
    have b2 := b.cell_ 2 rfl
    go_wp2_with fail
    refine (made_any w0 start size pages batch hs A n c l hr0 (by omega)).mono ?_
    rintro e w1 ⟨hm1, hm2, ho1⟩
    clear b0 b1 b2 d0 hr0
    by_cases hf : Sp.fits start size pages batch
    · obtain ⟨p, q, cap, rfl, hsp, hp, hq⟩ := hm1 hf
      clear hm1 hm2
      have HD0 := Sp.acts_dims (Sp.fresh start size pages batch) l
      have hfs := hf.2.1
      have hfs2 := hf.2.2
      have hfs3 := hf.1.2.2.2.1
      clear hf
      generalize (Sp.fresh start size pages batch).acts l = s at hsp HD0
      have HD2 : Hid (s.start = start ∧ s.size = size) := ⟨HD0.start, HD0.size⟩
      clear HD0
      have hsz := ho0.size
      have hp' : w.heap.size ≤ p := by omega
      have hq' : w.heap.size ≤ q := by omega
      have hl := hsp.good.len
      have hg := Lib.hid hsp.good
      have HBS := Lib.hid s.bits_size
      have hbl : s.bits.size ≤ 128 := by rw [s.bits_size]; exact hl
      have hm1 := hsp.good.many.1
      have hm2 := hsp.good.many.2
      go_wp2_with fail
      refine Grew.use (Bits_at hsp) (fun w2 ho2 => ?_)
      have hsp2 := hsp.only ho2 (by simp) (by simp)
      have bb := b.only (ho1.trans ho2) (by simp)
      have hoA := ho0.trans (ho1.trans ho2)
      go_wp2_with fail
      go_loop [9, 10, 11] (fun f o t => ∃ (k : Nat) (fi oi : Int), k ≤ s.bits.size ∧ t = .int .i64 k ∧ o = .int .i64 oi ∧ f = .int .i64 fi ∧ 0 ≤ oi ∧ oi ≤ k ∧ -1 ≤ fi ∧ fi < (k : Int) ∧ Hid (oi = (s.st.take k).sum) ∧ Hid (fi = idxOf (s.st.take k) 0)) (fun _ _ t => s.bits.size - (intOf t).toNat)
      case atStart => exact ⟨0, -1, 0, Nat.zero_le _, rfl, rfl, rfl, by omega, by omega, by omega, by omega, rfl, rfl⟩
      case round =>
        obtain ⟨k, fi, oi, hk, rfl, rfl, rfl, o1, o2, f1, f2, HO, HF⟩ := hrel
        by_cases hlt : k < s.bits.size
        · have hk' : k < s.st.length := by rw [← HBS.out]; exact hlt
          have hbit := hg.out.bits k hk'
          have hby := Sp.bits_at hg.out k hlt
          have HS1 := Lib.hid (sum_take_succ s.st k hk')
          have HS2 := Lib.hid (idxOf_take_succ s.st 0 k hk')
          rcases hbit with hv | hv
          · have e1 : (((s.bits[k]'hlt).toNat : Int) == 49) = false := by rw [hby, hv]; rfl
            by_cases hfi : fi < 0
            · have e2 : decide (fi < 0) = true := decide_eq_true hfi
              have N1 : Hid (oi = (s.st.take (k + 1)).sum) := by show _ = _; rw [HS1.out, ← HO.out, hv]; omega
              have N2 : Hid ((k : Int) = idxOf (s.st.take (k + 1)) 0) := by show _ = _; rw [HS2.out, ← HF.out, if_pos hfi, if_pos hv]
              clear hby hv
              go_wp2
              go_round
              case rel => exact ⟨k + 1, k, oi, by omega, by go_num, rfl, rfl, o1, by omega, by omega, by omega, N1, N2⟩
              case measure => simp [intOf]; omega
            · have e2 : decide (fi < 0) = false := decide_eq_false hfi
              have N1 : Hid (oi = (s.st.take (k + 1)).sum) := by show _ = _; rw [HS1.out, ← HO.out, hv]; omega
              have N2 : Hid (fi = idxOf (s.st.take (k + 1)) 0) := by show _ = _; rw [HS2.out, ← HF.out, if_neg hfi]
              clear hby hv
              go_wp2
              go_round
              case rel => exact ⟨k + 1, fi, oi, by omega, by go_num, rfl, rfl, o1, by omega, by omega, by omega, N1, N2⟩
              case measure => simp [intOf]; omega
          · have e1 : (((s.bits[k]'hlt).toNat : Int) == 49) = true := by rw [hby, hv]; rfl
            have N1 : Hid (oi + 1 = (s.st.take (k + 1)).sum) := by show _ = _; rw [HS1.out, ← HO.out, hv]
            have N2 : Hid (fi = idxOf (s.st.take (k + 1)) 0) := by
              show _ = _
              rw [HS2.out, ← HF.out, hv]
              split
              · rw [if_neg (by omega)]; omega
              · rfl
            clear hby hv
            go_wp2
            go_round
            case rel => exact ⟨k + 1, fi, oi + 1, by omega, by go_num, rfl, rfl, by omega, by omega, by omega, by omega, N1, N2⟩
            case measure => simp [intOf]; omega
        · have e : k = s.bits.size := by omega
          have HO2 : oi = s.many := by rw [HO.out, e, HBS.out, List.take_length, hg.out.cnt]
          have HF2 : Hid (fi = idxOf s.st 0) := by show _ = _; rw [HF.out, e, HBS.out, List.take_length]
          clear HO HF
          subst e HO2
          have HLL := Lib.hid (Sp.list_length hg.out)
          go_wp2_with fail
          have CO := Objects_at hsp2
          rw [← HBS.out] at CO
          refine Still.use CO ?_
          clear CO
          go_wp2_with fail
          refine Still.use (Taken_at hsp2) ?_
          go_wp2_with fail
          refine (List_at hsp2).mono ?_
          rintro e w3 ⟨v, rfl, hown, ho3⟩
          obtain ⟨A3, c3, rfl, _⟩ := own_slice hown
          have hsp3 := hsp2.only ho3 (by simp) (by simp)
          have bb3 := bb.only ho3 (by simp)
          have e3 : ((s.list.length : Int) != s.many) = false := bne_eq_false_iff_eq.2 HLL.out
          clear hown
          go_wp2_with fail
          have T := Take_at hsp3
          rcases idxOf_cases s.st 0 with ⟨hi, _⟩ | ⟨kk, hi, hkk, hvv, _⟩
          · rw [Sp.take_none hi] at T
            have hfi : fi = -1 := by rw [HF2.out, hi]
            clear hi HF2
            subst hfi
            have TH := Lib.hid T
            clear T
            refine TH.out.mono ?_
            rintro e w4 ⟨rfl, hsp4, ho4⟩
            go_wp2_with (first | (go_at_call 18; refine Grew.use (Bits_at hsp4) (fun w5 ho5 => ?_)) | (go_at_call 11; refine Grew.use (alive_any w5) (fun w6 ho6 => ?_)))
            go_ret
            exact ⟨rfl, ((only_pq (hoA.trans ho3) ho4 hp' hq').trans ho5).trans ho6⟩
          · rw [Sp.take_some hi, HD2.out.1, HD2.out.2] at T
            have hfi : fi = kk := by rw [HF2.out, hi]
            clear hi HF2
            subst hfi
            have TH := Lib.hid T
            clear T
            refine TH.out.mono ?_
            rintro e w4 ⟨rfl, hsp4, ho4⟩
            have bb4 := bb3.only ho4 (by have := b.lt; simp; omega)
            go_wp2_with fail
            have bbd := bb4.drew
            have hkk2 : kk ≤ s.bits.size := by rw [HBS.out]; omega
            have hkk3 : kk + 1 ≤ s.bits.size := by rw [HBS.out]; omega
            have off1 := hg.out.off (i := (kk : Int)) (by omega) (by omega)
            rw [HD2.out.2] at off1
            have pp := hg.out.p2
            obtain ⟨off1, off2⟩ := off1
            have W1 : IntKind.i64.wrap (start * 256) = start * 256 := IntWalk.i64_in _ (by omega)
            have W2 : IntKind.i64.wrap ((kk : Int) * size) = kk * size := IntWalk.i64_in _ (by omega)
            have W3 : IntKind.i64.wrap (start * 256 + (kk : Int) * size) = start * 256 + kk * size := IntWalk.i64_in _ (by omega)
            have W4 : IntKind.i64.wrap ((kk : Int) + 1) = kk + 1 := IntWalk.i64_in _ (by omega)
            obtain ⟨L1, M1, L2, S1, S2, S3, S4⟩ := cut_string kk hkk hl
            go_region_held3 (fun w' => w'.cell? ⟨w.heap.size, 0, none⟩ = some (.int .i64 size) ∧ w'.cell? ⟨w.heap.size, 1, none⟩ = some (.int .i64 pages) ∧ w'.cell? ⟨w.heap.size, 2, none⟩ = some (.int .i64 batch))
              (refine ⟨Blk.cell_ (t := 23) (cs := #[.int .i64 size, .int .i64 pages, .int .i64 batch]) ?_ 0 rfl, Blk.cell_ (t := 23) (cs := #[.int .i64 size, .int .i64 pages, .int .i64 batch]) ?_ 1 rfl, Blk.cell_ (t := 23) (cs := #[.int .i64 size, .int .i64 pages, .int .i64 batch]) ?_ 2 rfl⟩ <;> assumption)
              (first
                | (go_at_call 18; (with_reducible refine Grew.use (Bits_at hsp4.drew) (fun w5 ho5 => ?_)); have bb5 := bbd.only ho5 (by simp))
                | (go_at_call 11; (with_reducible refine Grew.use (alive_any _) (fun w6 ho6 => ?_)); have bb6 := bb5.only ho6 (by simp)))
            go_wp2
            go_ret
            exact ⟨rfl, (only_pq (hoA.trans ho3) ho4 hp' hq').trans (((Only.refl [] _).drew.trans ho5).trans ho6)⟩
    · have he := hm2 hf
      subst he
      clear hm1 hm2 hf
      go_wp2_with (first | (go_at_call 11; refine Grew.use (alive_any w1) (fun w2 ho2 => ?_)))
      go_ret
      exact ⟨rfl, (ho0.trans ho1).trans ho2⟩
end Go.Proofs.Ytnflfolonfmchaa
