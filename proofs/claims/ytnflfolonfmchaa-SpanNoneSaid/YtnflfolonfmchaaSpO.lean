/- SpanClones, walked. -/
import Derived.Test.YtnflfolonfmchaaSpM
set_option linter.unusedVariables false
set_option linter.unusedSimpArgs false
namespace Go.Proofs.Ytnflfolonfmchaa
open Go.RowKit

/-- What no call turns. -/
structure Sp.Dims (s t : Sp) : Prop where
  start : t.start = s.start
  size : t.size = s.size
  pages : t.pages = s.pages
  batch : t.batch = s.batch
  len : t.st.length = s.st.length
theorem Sp.Dims.refl (s : Sp) : s.Dims s := ⟨rfl, rfl, rfl, rfl, rfl⟩
theorem Sp.Dims.trans {a b c : Sp} (h : a.Dims b) (k : b.Dims c) : a.Dims c := ⟨k.start.trans h.start, k.size.trans h.size, k.pages.trans h.pages, k.batch.trans h.batch, k.len.trans h.len⟩
theorem Sp.put_dims (s : Sp) (i : Nat) (v : Int) : s.Dims (s.put i v) := ⟨rfl, rfl, rfl, rfl, by simp [Sp.put]⟩
theorem Sp.act_dims (s : Sp) (x : Int × Int) : s.Dims (s.act x).2 := by
  unfold Sp.act
  split
  · unfold Sp.take; split
    · exact .refl _
    · exact s.put_dims _ _
  · split
    · unfold Sp.free; split
      · exact .refl _
      · split
        · exact .refl _
        · exact s.put_dims _ _
    · split
      · exact .refl _
      · split <;> exact .refl _
theorem Sp.acts_dims (s : Sp) (l : List (Int × Int)) : s.Dims (s.acts l) := by
  induction l generalizing s with
  | nil => exact .refl _
  | cons x l ih => exact (s.act_dims x).trans (ih _)

theorem Run_at2 {w p q cap s} (h : SpanAt w p q cap s) {x y : Int} (h1 : s.start = x) (h2 : s.pages = y) : Grew Try.prog 25 #[.pointer (some ⟨p, 0, none⟩)] w (.agg #[.int .i64 x, .int .i64 y]) := by
  subst h1 h2
  exact Run_at h
theorem Class_at2 {w p q cap s} (h : SpanAt w p q cap s) {x y z : Int} (h1 : s.size = x) (h2 : s.pages = y) (h3 : s.batch = z) : Grew Try.prog 26 #[.pointer (some ⟨p, 0, none⟩)] w (.agg #[.int .i64 x, .int .i64 y, .int .i64 z]) := by
  subst h1 h2 h3
  exact Class_at h

set_option maxRecDepth 100000 in
set_option maxHeartbeats 8000000 in
theorem SpanClones_walk (w : World) (start : Int) (hs : I64 start) (size pages batch : Int) (_ : I64 size) (_ : I64 pages) (_ : I64 batch) (A : Option Addr) (n c : Nat) (l : List (Int × Int)) (hr : ReadsA w A n l) (hn : n ≤ 9223372036854775807)
    (A' : Option Addr) (n' c' : Nat) (l' : List (Int × Int)) (hr' : ReadsA w A' n' l') (hn' : n' ≤ 9223372036854775807) (side : Bool) :
    Grew Try.prog 7 #[.int .i64 start, .agg #[.int .i64 size, .int .i64 pages, .int .i64 batch], .slice A n c, .slice A' n' c', .bool side] w (.bool true) := by
  have b := Blk.new w 23 #[.int .i64 size, .int .i64 pages, .int .i64 batch]
  have ho0 := (Only.refl [] w).alloc (.cells #[.int .i64 size, .int .i64 pages, .int .i64 batch] 23)
  have hr0 := hr.only ho0 (by simp)
  have hr0' := hr'.only ho0 (by simp)
  clear hr hr'
  by_cases hg : 60 < n ∨ 60 < n'
  · by_cases hg1 : 60 < n
    · have d0 : decide (60 < n) = true := decide_eq_true hg1
      go_enter Try.func7, Try.ntmps7
      go_wp2_with fail
      generalize w.alloc (.cells #[.int .i64 size, .int .i64 pages, .int .i64 batch] 23) = w0 at *
      refine Still.use (great_any w0 A n c hn) ?_
      go_wp2_with (first | (go_at_call 11; refine Grew.use (alive_any w0) (fun w1 ho1 => ?_)))
      go_ret
      exact ⟨rfl, ho0.trans ho1⟩
    · have d0 : decide (60 < n) = false := decide_eq_false hg1
      have d1 : decide (60 < n') = true := decide_eq_true (by omega)
      go_enter Try.func7, Try.ntmps7
      go_wp2_with fail
      generalize w.alloc (.cells #[.int .i64 size, .int .i64 pages, .int .i64 batch] 23) = w0 at *
      refine Still.use (great_any w0 A n c hn) ?_
      go_wp2_with fail
      refine Still.use (great_any w0 A' n' c' hn') ?_
      go_wp2_with (first | (go_at_call 11; refine Grew.use (alive_any w0) (fun w1 ho1 => ?_)))
      go_ret
      exact ⟨rfl, ho0.trans ho1⟩
  · have hg1 : n ≤ 60 := by omega
    have hg2 : n' ≤ 60 := by omega
    have d0 : decide (60 < n) = false := decide_eq_false (by omega)
    have d1 : decide (60 < n') = false := decide_eq_false (by omega)
    clear hg
    go_enter Try.func7, Try.ntmps7
    go_wp2_with fail
    generalize w.alloc (.cells #[.int .i64 size, .int .i64 pages, .int .i64 batch] 23) = w0 at *
    refine Still.use (great_any w0 A n c hn) ?_
    go_wp2_with fail
    refine Still.use (great_any w0 A' n' c' hn') ?_
    have b0 := b.cell_ 0 rfl
    have b1 := b.cell_ 1 rfl
    have b2 := b.cell_ 2 rfl
    go_wp2_with fail
    refine (made_any w0 start size pages batch hs A n c l hr0 (by omega)).mono ?_
    rintro e w1 ⟨hm1, hm2, ho1⟩
    clear b0 b1 b2 d0 d1
    by_cases hf : Sp.fits start size pages batch
    · obtain ⟨p, q, cap, rfl, hsp, hp, hq⟩ := hm1 hf
      clear hm1 hm2 hf
      have HD := Lib.hid (Sp.acts_dims (Sp.fresh start size pages batch) l)
      generalize (Sp.fresh start size pages batch).acts l = s at hsp HD
      have HD2 : Hid (s.start = start ∧ s.size = size ∧ s.pages = pages ∧ s.batch = batch) := ⟨HD.out.start, HD.out.size, HD.out.pages, HD.out.batch⟩
      clear HD
      have hsz := ho0.size
      have hp' : w.heap.size ≤ p := by omega
      have hq' : w.heap.size ≤ q := by omega
      go_wp2_with fail
      refine Grew.use (Bits_at hsp) (fun w2 ho2 => ?_)
      have hsp2 := hsp.only ho2 (by simp) (by simp)
      go_wp2_with fail
      refine (Clone_at hsp2).mono ?_
      rintro e w3 ⟨p2, q2, cap2, rfl, hcl, hp2, hq2, ho3⟩
      have hsp3 := hsp2.only ho3 (by simp) (by simp)
      have hr3 := (hr0'.only (ho1.trans (ho2.trans ho3)) (by simp))
      have bb := b.only (ho1.trans (ho2.trans ho3)) (by simp)
      have hoA := ho0.trans (ho1.trans (ho2.trans ho3))
      have hpl := hsp2.ltp
      have hql := hsp2.ltq
      have hwl := b.lt
      have hsz2 := ho2.size
      have hsz1 := ho1.size
      have HRB : Hid (0 < n' → ∀ ad, A' = some ad → ad.block < w0.heap.size) := fun h0 ad e => by
        obtain ⟨ad', e', hc⟩ := hr0'.2.2 h0
        rw [e] at e'
        injection e' with e'
        subst e'
        have := World.block_lt_of_cell? w0 _ (hc 0 h0).1
        rwa [show (ad.add (0 * 2)).block = ad.block from by unfold Addr.add; split <;> rfl] at this
      clear hr0 hr0'
      obtain ⟨HL, HI, HC⟩ := hr3
      have HR := Lib.hid (⟨HL, HI, HC⟩ : ReadsA w3 A' n' l')
      have HLL := Lib.hid HL
      clear HL HI HC
      cases side
      · go_wp2_with fail
        go_loopw [14] (fun t wr => ∃ k : Nat, k ≤ n' ∧ t = .int .i64 k ∧ SpanAt wr p q cap s ∧ SpanAt wr p2 q2 cap2 (s.acts (l'.take k)) ∧ Only [p2, q2] w3 wr) (fun t _ => n' - (intOf t).toNat)
        case atStart => exact ⟨0, Nat.zero_le _, rfl, hsp3, hcl, Only.refl _ _⟩
        case round =>
          obtain ⟨k, hk, rfl, ha, hb, ho⟩ := hrel
          by_cases hlt : k < n'
          · have HS := Lib.hid (Sp.acts_succ s l' k (by rw [HLL.out]; exact hlt))
            have hi := HR.out.2.1 k hlt
            obtain ⟨ad, rfl, hc⟩ := HR.out.2.2 (by omega)
            obtain ⟨c1, c2⟩ := hc k hlt
            have hadd : ∀ j, (ad.add j).block = ad.block := fun j => by unfold Addr.add; split <;> rfl
            have hcb := HRB.out (by omega) ad rfl
            have c1 := (ho.cell (World.block_lt_of_cell? w3 _ c1) (by rw [hadd]; simp; omega)).trans c1
            have c2 := (ho.cell (p := ⟨(ad.add (k * 2)).block, (ad.add (k * 2)).off + 1, none⟩) (World.block_lt_of_cell? w3 _ c2) (by show (ad.add (k * 2)).block ∉ _; rw [hadd]; simp; omega)).trans c2
            clear hc hadd
            obtain ⟨x, hx⟩ : ∃ x, x = l'.getD k (0, 0) := ⟨_, rfl⟩
            rw [← hx] at c1 c2 hi HS
            clear hx
            obtain ⟨xk, xa⟩ := x
            dsimp only at c1 c2 hi
            go_wp2_with (first | (go_at_call 19; refine (do_at hb xk xa hi.2).mono ?_; rintro e w4 ⟨rfl, h4, ho4⟩))
            have hy4 := ha.only ho4 (by simp; omega) (by simp; omega)
            go_roundw
            case rel => exact ⟨k + 1, by omega, by go_num, by first | (rw [HS.out]; exact hy4) | exact hy4, by first | (rw [HS.out]; exact h4) | exact h4, ho.trans ho4⟩
            case measure => simp [intOf]; omega
          · have e : k = n' := by omega
            subst e
            have bbr := bb.only ho (by simp; omega)
            go_wp2_with fail
            have HDX : Hid ((s.acts (l'.take k)).start = start ∧ (s.acts (l'.take k)).size = size ∧ (s.acts (l'.take k)).pages = pages ∧ (s.acts (l'.take k)).batch = batch) := by
              have h1 := HD2.out
              have h2 := Sp.acts_dims s (l'.take k)
              exact ⟨h2.start.trans h1.1, h2.size.trans h1.2.1, h2.pages.trans h1.2.2.1, h2.batch.trans h1.2.2.2⟩
            have HDA := HD2
            have HDB := HDX
            have bbd := bbr.drew
            go_region_held3 (fun w' => w'.cell? ⟨w.heap.size, 0, none⟩ = some (.int .i64 size) ∧ w'.cell? ⟨w.heap.size, 1, none⟩ = some (.int .i64 pages) ∧ w'.cell? ⟨w.heap.size, 2, none⟩ = some (.int .i64 batch))
              (refine ⟨Blk.cell_ (t := 23) (cs := #[.int .i64 size, .int .i64 pages, .int .i64 batch]) ?_ 0 rfl, Blk.cell_ (t := 23) (cs := #[.int .i64 size, .int .i64 pages, .int .i64 batch]) ?_ 1 rfl, Blk.cell_ (t := 23) (cs := #[.int .i64 size, .int .i64 pages, .int .i64 batch]) ?_ 2 rfl⟩ <;> assumption)
              (first
                | (go_at_call 18; (with_reducible refine Grew.use (Bits_at ha.drew) (fun w4 ho4 => ?_)); have bb4 := bbd.only ho4 (by simp); have ha4 := ha.drew.only ho4 (by simp) (by simp); have hb4 := hb.drew.only ho4 (by simp) (by simp))
                | (go_at_call 25; (with_reducible refine Grew.use (Run_at2 hb4 HDB.out.1 HDB.out.2.2.1) (fun w5 ho5 => ?_)); have bb5 := bb4.only ho5 (by simp); have ha5 := ha4.only ho5 (by simp) (by simp); have hb5 := hb4.only ho5 (by simp) (by simp))
                | (go_at_call 25; (with_reducible refine Grew.use (Run_at2 ha5 HDA.out.1 HDA.out.2.2.1) (fun w6 ho6 => ?_)); have bb6 := bb5.only ho6 (by simp); have hb6 := hb5.only ho6 (by simp) (by simp))
                | (go_at_call 26; (with_reducible refine Grew.use (Class_at2 hb6 HDB.out.2.1 HDB.out.2.2.1 HDB.out.2.2.2) (fun w7 ho7 => ?_)); have bb7 := bb6.only ho7 (by simp))
                | (go_at_call 11; (with_reducible refine Grew.use (alive_any w7) (fun w8 ho8 => ?_)); have bb8 := bb7.only ho8 (by simp)))
            go_wp2
            go_ret
            exact ⟨rfl, (only_pq hoA ho (by omega) (by omega)).trans (((((Only.refl [] _).drew.trans ho4).trans ho5).trans ho6).trans ho7 |>.trans ho8)⟩
      · go_wp2_with fail
        go_loopw [14] (fun t wr => ∃ k : Nat, k ≤ n' ∧ t = .int .i64 k ∧ SpanAt wr p q cap (s.acts (l'.take k)) ∧ SpanAt wr p2 q2 cap2 s ∧ Only [p, q] w3 wr) (fun t _ => n' - (intOf t).toNat)
        case atStart => exact ⟨0, Nat.zero_le _, rfl, hsp3, hcl, Only.refl _ _⟩
        case round =>
          obtain ⟨k, hk, rfl, ha, hb, ho⟩ := hrel
          by_cases hlt : k < n'
          · have HS := Lib.hid (Sp.acts_succ s l' k (by rw [HLL.out]; exact hlt))
            have hi := HR.out.2.1 k hlt
            obtain ⟨ad, rfl, hc⟩ := HR.out.2.2 (by omega)
            obtain ⟨c1, c2⟩ := hc k hlt
            have hadd : ∀ j, (ad.add j).block = ad.block := fun j => by unfold Addr.add; split <;> rfl
            have hcb := HRB.out (by omega) ad rfl
            have c1 := (ho.cell (World.block_lt_of_cell? w3 _ c1) (by rw [hadd]; simp; omega)).trans c1
            have c2 := (ho.cell (p := ⟨(ad.add (k * 2)).block, (ad.add (k * 2)).off + 1, none⟩) (World.block_lt_of_cell? w3 _ c2) (by show (ad.add (k * 2)).block ∉ _; rw [hadd]; simp; omega)).trans c2
            clear hc hadd
            obtain ⟨x, hx⟩ : ∃ x, x = l'.getD k (0, 0) := ⟨_, rfl⟩
            rw [← hx] at c1 c2 hi HS
            clear hx
            obtain ⟨xk, xa⟩ := x
            dsimp only at c1 c2 hi
            go_wp2_with (first | (go_at_call 19; refine (do_at ha xk xa hi.2).mono ?_; rintro e w4 ⟨rfl, h4, ho4⟩))
            have hy4 := hb.only ho4 (by simp; omega) (by simp; omega)
            go_roundw
            case rel => exact ⟨k + 1, by omega, by go_num, by first | (rw [HS.out]; exact h4) | exact h4, by first | (rw [HS.out]; exact hy4) | exact hy4, ho.trans ho4⟩
            case measure => simp [intOf]; omega
          · have e : k = n' := by omega
            subst e
            have bbr := bb.only ho (by simp; omega)
            go_wp2_with fail
            have HDX : Hid ((s.acts (l'.take k)).start = start ∧ (s.acts (l'.take k)).size = size ∧ (s.acts (l'.take k)).pages = pages ∧ (s.acts (l'.take k)).batch = batch) := by
              have h1 := HD2.out
              have h2 := Sp.acts_dims s (l'.take k)
              exact ⟨h2.start.trans h1.1, h2.size.trans h1.2.1, h2.pages.trans h1.2.2.1, h2.batch.trans h1.2.2.2⟩
            have HDA := HDX
            have HDB := HD2
            have bbd := bbr.drew
            go_region_held3 (fun w' => w'.cell? ⟨w.heap.size, 0, none⟩ = some (.int .i64 size) ∧ w'.cell? ⟨w.heap.size, 1, none⟩ = some (.int .i64 pages) ∧ w'.cell? ⟨w.heap.size, 2, none⟩ = some (.int .i64 batch))
              (refine ⟨Blk.cell_ (t := 23) (cs := #[.int .i64 size, .int .i64 pages, .int .i64 batch]) ?_ 0 rfl, Blk.cell_ (t := 23) (cs := #[.int .i64 size, .int .i64 pages, .int .i64 batch]) ?_ 1 rfl, Blk.cell_ (t := 23) (cs := #[.int .i64 size, .int .i64 pages, .int .i64 batch]) ?_ 2 rfl⟩ <;> assumption)
              (first
                | (go_at_call 18; (with_reducible refine Grew.use (Bits_at hb.drew) (fun w4 ho4 => ?_)); have bb4 := bbd.only ho4 (by simp); have ha4 := ha.drew.only ho4 (by simp) (by simp); have hb4 := hb.drew.only ho4 (by simp) (by simp))
                | (go_at_call 25; (with_reducible refine Grew.use (Run_at2 hb4 HDB.out.1 HDB.out.2.2.1) (fun w5 ho5 => ?_)); have bb5 := bb4.only ho5 (by simp); have ha5 := ha4.only ho5 (by simp) (by simp); have hb5 := hb4.only ho5 (by simp) (by simp))
                | (go_at_call 25; (with_reducible refine Grew.use (Run_at2 ha5 HDA.out.1 HDA.out.2.2.1) (fun w6 ho6 => ?_)); have bb6 := bb5.only ho6 (by simp); have hb6 := hb5.only ho6 (by simp) (by simp))
                | (go_at_call 26; (with_reducible refine Grew.use (Class_at2 hb6 HDB.out.2.1 HDB.out.2.2.1 HDB.out.2.2.2) (fun w7 ho7 => ?_)); have bb7 := bb6.only ho7 (by simp))
                | (go_at_call 11; (with_reducible refine Grew.use (alive_any w7) (fun w8 ho8 => ?_)); have bb8 := bb7.only ho8 (by simp)))
            go_wp2
            go_ret
            exact ⟨rfl, (only_pq hoA ho (by omega) (by omega)).trans (((((Only.refl [] _).drew.trans ho4).trans ho5).trans ho6).trans ho7 |>.trans ho8)⟩
    · have he := hm2 hf
      subst he
      clear hm1 hm2 hf
      go_wp2_with (first | (go_at_call 11; refine Grew.use (alive_any w1) (fun w2 ho2 => ?_)))
      go_ret
      exact ⟨rfl, (ho0.trans ho1).trans ho2⟩
end Go.Proofs.Ytnflfolonfmchaa
