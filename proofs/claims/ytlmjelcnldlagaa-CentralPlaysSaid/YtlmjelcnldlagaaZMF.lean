/- CentralOnce, walked. -/
import Derived.Test.YtlmjelcnldlagaaZME
set_option linter.unusedVariables false
set_option linter.unusedSimpArgs false
namespace Go.Proofs.Ytlmjelcnldlagaa
open Go.RowKit

/-- The list, the numbers of a row of its own, and the class's box. -/
structure OAt (w wr : World) (P : Nat) (bl : List Nat) (c : Cl) (M : List Sp) (O : List Int) (u : Value) : Prop where
  ho : Only [] w wr
  box : Blk wr w.heap.size 23 #[.int .i64 c.size, .int .i64 c.pages, .int .i64 c.batch]
  st : ListSt wr P bl c M
  lb : ∀ b ∈ bl, w.heap.size < b
  own : wr.ownsRow (w.heap.size + 1) 3 1 u O.length (O.map (Value.int .i64))
  nu : ∀ x, u.ownBlock = some x → x ∉ bl
theorem OAt.still {w wr w2 : World} {P : Nat} {bl : List Nat} {c : Cl} {M : List Sp} {O : List Int} {u : Value} (h : OAt w wr P bl c M O u) (ho : Only [] wr w2) : OAt w w2 P bl c M O u :=
  ⟨h.ho.trans ho, h.box.only ho (by simp), h.st.still ho, h.lb, own_only h.own ho (by simp), h.nu⟩
theorem OAt.turn {w wr w2 : World} {P : Nat} {bl : List Nat} {c : Cl} {M M2 : List Sp} {O : List Int} {u : Value} (h : OAt w wr P bl c M O u) (hT : LTurn wr P bl w2 c M2) : ∃ bl2, OAt w w2 P bl2 c M2 O u := by
  obtain ⟨ho, bl2, hst, hb⟩ := hT
  refine ⟨bl2, h.ho.then_ ho (fun b hb => .inr (by have := h.lb b hb; omega)), h.box.only ho (fun hb => by have := h.lb _ hb; omega), hst, fun b hb' => ?_, own_only h.own ho h.nu, fun x hx hxb => ?_⟩
  · rcases hb b hb' with h1 | h1
    · exact h.lb b h1
    · have := h.box.lt
      omega
  · rcases hb x hxb with h1 | h1
    · exact h.nu x hx h1
    · have := own_lt h.own x hx
      omega
theorem OAt.fresh {w wr w2 : World} {P : Nat} {bl : List Nat} {c : Cl} {M : List Sp} {O O' : List Int} {u u' : Value} (h : OAt w wr P bl c M O u) (ho : Only [] wr w2) (hown : w2.ownsRow wr.heap.size 3 1 u' O'.length (O'.map (Value.int .i64))) : OAt w w2 P bl c M O' u' :=
  ⟨h.ho.trans ho, h.box.only ho (by simp), h.st.still ho, h.lb, own_mono hown (by have := h.box.lt; omega), fun x hx hxb => by
    have a1 := own_base hown x hx
    have a2 := h.st.lt x hxb
    omega⟩
theorem OAt.grow {w wr w2 : World} {P : Nat} {bl : List Nat} {c : Cl} {M : List Sp} {O : List Int} {u u' : Value} {x : Int} (h : OAt w wr P bl c M O u) (ho : Only u.ownBlock.toList wr w2) (hown : w2.ownsRow (w.heap.size + 1) 3 1 u' (O.length + 1) (O.map (Value.int .i64) ++ [.int .i64 x])) (hn : ∀ b, u'.ownBlock = some b → u.ownBlock = some b ∨ wr.heap.size ≤ b) : OAt w w2 P bl c M (O ++ [x]) u' := by
  have hb : ∀ b ∈ u.ownBlock.toList, u.ownBlock = some b := fun b hb => by simpa using hb
  refine ⟨h.ho.then_ ho (fun b hb' => .inr ?_), h.box.only ho (fun hb' => ?_), h.st.only ho (fun b hbl hb' => h.nu b (hb b hb') hbl), h.lb, by rw [List.length_append, List.map_append]; exact hown, fun y hy hyb => ?_⟩
  · have := own_base h.own b (hb b hb')
    omega
  · have := own_base h.own _ (hb _ hb')
    omega
  · rcases hn y hy with h1 | h1
    · exact h.nu y h1 hyb
    · have := h.st.lt y hyb
      omega
theorem OAt.reads {w wr : World} {P : Nat} {bl : List Nat} {c : Cl} {M : List Sp} {O : List Int} {u : Value} (h : OAt w wr P bl c M O u) : ∃ A cp, u = .slice A O.length cp ∧ ReadsI wr A O.length O := by
  obtain ⟨A, cp, h1, h2, _⟩ := own_reads h.own
  exact ⟨A, cp, h1, h2⟩

theorem readsA_cells {w : World} {ad : Addr} {n : Nat} {l : List Ac7} (h : ReadsA w (some ad) n l) {j : Nat} (hj : j < n) : w.cell? (ad.add (j * 3)) = some (.int .i64 (xAt l j).k) ∧ w.cell? ⟨(ad.add (j * 3)).block, (ad.add (j * 3)).off + 1, none⟩ = some (.int .i64 (xAt l j).a) ∧
    w.cell? ⟨(ad.add (j * 3)).block, (ad.add (j * 3)).off + 2, none⟩ = some (.slice (xAt l j).B (xAt l j).n (xAt l j).cap) := by
  obtain ⟨_, ad', e, h⟩ := h.at_ hj
  injection e with e
  subst e
  exact h

/-- Take, whatever it is asked. -/
theorem lTake_once {w wr : World} {P : Nat} {bl : List Nat} {c : Cl} {M : List Sp} {O : List Int} {u : Value} (h : OAt w wr P bl c M O u) (h1 : Once c M O) (a : Int) : Calls Try.prog 21 #[.pointer (some ⟨P, 0, none⟩), .int .i64 a] wr fun e w' =>
    ∃ v er T M2, e = .returned (.tuple #[v, .int .i64 er]) ∧ OAt w w' P bl c M2 O u ∧ Once c M2 (O ++ T) ∧ w'.ownsRow wr.heap.size 3 1 v T.length (T.map (Value.int .i64)) ∧ wr.heap.size ≤ w'.heap.size := by
  refine (lTake_at h.st a).mono ?_
  rintro e w' ⟨ho, t1, t2⟩
  have key : ∀ M2, ListSt w' P bl c M2 → OAt w w' P bl c M2 O u := fun M2 hst =>
    ⟨h.ho.then_ ho (fun b hb => .inr (by have := h.lb b hb; omega)), h.box.only ho (fun hb => by have := h.lb _ hb; omega), hst, h.lb, own_only h.own ho h.nu, h.nu⟩
  by_cases hm : a < 0
  · obtain ⟨rfl, hst⟩ := t1 hm
    exact ⟨_, 1, [], M, rfl, key _ hst, by rw [List.append_nil]; exact h1, World.ownsRow_nil _ _ _ _, ho.size⟩
  · obtain ⟨v, rfl, hst, hown⟩ := t2 (by omega)
    exact ⟨v, 0, _, _, rfl, key _ hst, (h1.takes h.st.goodL _).2, hown, ho.size⟩

set_option maxRecDepth 100000 in
set_option maxHeartbeats 8000000 in
theorem CentralOnce_walk (w : World) (cx cy cz : Int) (_ : I64 cx) (_ : I64 cy) (_ : I64 cz) (A : Option Addr) (n cp : Nat) (l : List Ac7) (hr : ReadsA w A n l) (hn : n ≤ 9223372036854775807) :
    Grew Try.prog 6 #[.agg #[.int .i64 cx, .int .i64 cy, .int .i64 cz], .slice A n cp] w (.bool true) := by
  have hlen := hr.1
  have o1 := (Only.refl [] w).alloc (.cells #[.int .i64 cx, .int .i64 cy, .int .i64 cz] 23)
  have bC := Blk.new w 23 #[.int .i64 cx, .int .i64 cy, .int .i64 cz]
  have CG := Lib.hid (great_any (w.alloc (.cells #[.int .i64 cx, .int .i64 cy, .int .i64 cz] 23)) A n cp l (hr.still o1) hn)
  have CM := Lib.hid (lmadeOf_any (w.alloc (.cells #[.int .i64 cx, .int .i64 cy, .int .i64 cz] 23)) ⟨cx, cy, cz⟩ none 0 0 [] (ReadsA.none _) (by omega) (fun j hj => absurd hj (by omega)))
  have HO1 := Lib.hid o1
  have HBC1 := Lib.hid bC
  have HR := Lib.hid hr
  cases hg : greatOf l with
  | true =>
    rw [hg] at CG
    clear hr hlen bC
    go_enter Try.func6, Try.ntmps6
    go_wp2_with (first | (go_at_call 13; with_reducible refine Still.use CG.out ?_) | (go_at_call 14; with_reducible refine Grew.use (alive_any _) (fun w5 ho5 => ?_)))
    go_ret
    exact ⟨rfl, HO1.out.trans ho5⟩
  | false =>
    rw [hg] at CG
    have H60 : Hid (∀ j, j < n → (xAt l j).n ≤ 60) := Lib.hid (fun j hj => (greatOf_false hg).2 j (by rw [hlen]; exact hj))
    clear hr hlen bC hg
    by_cases hok : (⟨cx, cy, cz⟩ : Cl).ok
    · have HOK := Lib.hid hok
      clear hok
      go_enter Try.func6, Try.ntmps6
      go_wp2_with (first | (go_at_call 13; with_reducible refine Still.use CG.out ?_))
      with_reducible refine Calls.mono CM.out ?_
      rintro e w2 ⟨ho2, h1, _⟩
      obtain ⟨P, bl, rfl, hst, hbl⟩ := h1 HOK.out
      have HOJ := Lib.hid (fun W => robj_any W cx cy cz HOK.out)
      have hobs := HOK.out.objs
      have HOA : Hid (OAt w w2 P bl ⟨cx, cy, cz⟩ [] [] (.slice none 0 0)) := Lib.hid ⟨HO1.out.trans ho2, HBC1.out.only ho2 (by simp), hst, fun b hb => by have h1 := hbl b hb; have h2 := HBC1.out.lt; omega, World.ownsRow_nil _ _ _ _, fun x hx => by cases hx⟩
      have HRM := Lib.hid (fun (M : List Sp) (h : GoodL ⟨cx, cy, cz⟩ M) => room_many h)
      dsimp only at HRM hobs
      obtain ⟨i0, hi, hz0, hz1, hz2⟩ := info_parts info_int
      generalize hob : cy * 256 / cx = ob at *
      clear h1 hst hbl CM CG HBC1 hob ho2
      obtain ⟨ob1, ob2, _⟩ := hobs
      go_wp2_with fail
      go_loopw [6, 7] (fun u t wr => ∃ (k : Nat) (bl : List Nat) (M : List Sp) (O : List Int), k ≤ n ∧ t = .int .i64 k ∧ OAt w wr P bl ⟨cx, cy, cz⟩ M O u ∧ Once ⟨cx, cy, cz⟩ M O) (fun _ t _ => n - (intOf t).toNat)
      case atStart => exact ⟨0, bl, [], [], Nat.zero_le _, rfl, HOA.out, Once.nil _⟩
      case round =>
        clear HOA
        obtain ⟨k, bl, M, O, hk, rfl, hoa, honce⟩ := hrel
        have HOA := Lib.hid hoa
        have HON := Lib.hid honce
        obtain ⟨B, cB, rfl, hro⟩ := hoa.reads
        have HRO := Lib.hid hro
        have hO : (O.length : Int) ≤ 131072 := by have := hoa.st.goodL.many_le; have := honce.cnt; omega
        have HSZ := Lib.hid hoa.ho.size
        have hbx1 : w.heap.size + 1 ≤ wr.heap.size := hoa.box.lt
        clear hro honce
        by_cases hlt : k < n
        · have d1 : decide ((k : Int) < n) = true := decide_eq_true (by omega)
          obtain ⟨hokx, ad, rfl, c0, c1, c2⟩ := (HR.out.still hoa.ho).at_ hlt
          have hold := (HR.out.at_ hlt).1.old
          have HCS := Lib.hid (fun W (h : Only [] w W) => readsA_cells (HR.out.still h) hlt)
          have HX := Lib.hid hokx
          by_cases k1 : (xAt l k).k = 1
          · have k1b : ((xAt l k).k != 1) = false := by rw [k1]; rfl
            have CT := Lib.hid (lTake_once HOA.out HON.out (xAt l k).a)
            clear hokx hold HCS HX hoa
            generalize xAt l k = x at *
            obtain ⟨xk, xa, xB, xn, xc, xo⟩ := x
            dsimp only at *
            go_wp2_with fail
            with_reducible refine Calls.mono CT.out ?_
            rintro e w3 ⟨v, er, T, M2, rfl, hoa3, honce3, hownT, hz3⟩
            obtain ⟨A3, c3, rfl, _⟩ := own_slice hownT
            have HON3 := Lib.hid honce3
            have HOA3 := Lib.hid hoa3
            have HT := Lib.hid hownT
            have hOT : ((O ++ T).length : Int) ≤ 131072 := by have := hoa3.st.goodL.many_le; have := honce3.cnt; omega
            rw [List.length_append] at hOT
            have HND := Lib.hid (fun j (hj : j < T.length) => show iAt T j ∉ O ++ T.take j from by
              have h := nodup_at honce3.nd (k := O.length + j) (by rw [List.length_append]; omega)
              have e1 : iAt (O ++ T) (O.length + j) = iAt T j := by
                simp only [iAt, List.getD_eq_getElem?_getD]
                rw [List.getElem?_append_right (by omega), Nat.add_sub_cancel_left]
              rw [e1, List.take_length_add_append] at h
              exact h)
            have HNU3 : Hid (∀ x, (Value.slice B O.length cB).ownBlock = some x → (Value.slice A3 T.length c3).ownBlock ≠ some x) := Lib.hid (fun x hx hv => by
              have a1 := own_lt HOA.out.own x hx
              have a2 := own_base hownT x hv
              omega)
            obtain ⟨N, hN⟩ : ∃ N, N = T.length := ⟨_, rfl⟩
            have HN := Lib.hid hN
            have HUOWN := Lib.hid (show OAt w w3 P bl ⟨cx, cy, cz⟩ M2 (O ++ T.take 0) (.slice B O.length cB) from by rw [List.take_zero, List.append_nil]; exact hoa3)
            rw [← hN] at hOT ⊢
            clear hoa3 honce3 hownT CT hN HOA HRO HON
            go_wp2_with fail
            go_loopw [6, 10] (fun u t wr => ∃ j : Nat, j ≤ N ∧ t = .int .i64 j ∧ OAt w wr P bl ⟨cx, cy, cz⟩ M2 (O ++ T.take j) u ∧ wr.ownsRow (w.heap.size + 1) 3 1 (.slice A3 N c3) N (T.map (Value.int .i64)) ∧ (∀ x, u.ownBlock = some x → (Value.slice A3 N c3).ownBlock ≠ some x)) (fun _ t _ => N - (intOf t).toNat)
            case atStart => exact ⟨0, Nat.zero_le _, rfl, HUOWN.out, by rw [HN.out]; exact own_mono HT.out hbx1, by rw [HN.out]; exact HNU3.out⟩
            case round =>
              obtain ⟨j, hj, rfl, hoaj, hownT, hnu⟩ := hrel
              obtain ⟨B', cB', e', hroj⟩ := hoaj.reads
              subst e'
              by_cases hlt2 : j < N
              · have d2 : decide ((j : Int) < N) = true := decide_eq_true (by omega)
                have hjT : j < T.length := by rw [← HN.out]; exact hlt2
                obtain ⟨g, c', e1, _⟩ := own_form hownT (by omega)
                injection e1 with e1 _ e3
                subst e1 e3
                have x0 : wr.cell? ⟨g, j, none⟩ = some (.int .i64 (iAt T j)) := own_int hownT hlt2
                have hLl : (O ++ T.take j).length = O.length + j := by rw [List.length_append, List.length_take]; omega
                have CI := Lib.hid (lin_any wr B' _ cB' (O ++ T.take j) (iAt T j) hroj (by omega))
                have hLb : (O ++ T.take j).length + 1 ≤ 131072 := by omega
                clear hLl
                rw [decide_eq_false (HND.out j hjT)] at CI
                have HTS : Hid (O ++ T.take (j + 1) = (O ++ T.take j) ++ [iAt T j]) := Lib.hid (by rw [take_snoc T hjT, List.append_assoc])
                have hown := hoaj.own
                have HOJ2 := Lib.hid hoaj
                have HNU := Lib.hid hnu
                have HTO := Lib.hid hownT
                have hszr := hoaj.box.lt
                clear hroj hjT hoaj hnu hownT
                generalize iAt T j = y at *
                generalize O ++ T.take j = L at *
                obtain ⟨K, hK⟩ : ∃ K, K = L.length := ⟨_, rfl⟩
                have HK := Lib.hid hK
                rw [← hK] at hown CI hLb HOJ2 HNU
                rw [← hK]
                clear hK
                go_wp2_with (first
                  | (go_at_call 26; with_reducible refine Still.use CI.out ?_)
                  | (at_builtin; refine wpList_append_lies _ rfl _ _ 25 rfl (w.heap.size + 1) 3 i0 (.int .i64 0) 1 8 Try.underlying25 hi hz0 hz1 hz2 rfl (by decide) _ _ _ rfl (hown.alloc _) ⟨wr.heap.size, 0, none⟩ 1 1 [.int .i64 y] rfl rfl (cell_new1 wr _ _) (by simp; rfl) (by decide) (by unfold maxLen; omega) (by omega) (by simp; omega) _ rfl ?_; intro g1 c1 w4 hown4 hg4 hat4 _))
                have ho4 : Only (Value.ownBlock (.slice B' K cB')).toList wr w4 := ((Only.refl _ wr).alloc _).grown hg4 (fun b hb => .inl (by have hb' : (Value.ownBlock (.slice B' K cB')) = some b := hb; rw [hb']; simp))
                have hgn : ∀ b, (Value.slice (some ⟨g1, 0, none⟩) (K + 1) c1).ownBlock = some b → (Value.slice B' K cB').ownBlock = some b ∨ wr.heap.size ≤ b := fun b hb => by
                  have e : g1 = b := by simpa [Value.ownBlock] using hb
                  subst e
                  rcases hat4 with h | h
                  · exact .inl h
                  · exact .inr (by rw [h]; simp)
                have hoa4 := HOJ2.out.grow ho4 (by rw [← HK.out]; exact hown4) hgn
                have hT4 := own_only HTO.out ho4 (fun x hx hxl => HNU.out x (by simpa using hxl) hx)
                have hnu4 : ∀ x, (Value.slice (some ⟨g1, 0, none⟩) (K + 1) c1).ownBlock = some x → (Value.slice (some ⟨g, 0, none⟩) N c3).ownBlock ≠ some x := fun x hx hv => by
                  rcases hgn x hx with h | h
                  · exact HNU.out x h hv
                  · have := own_lt HTO.out x hv
                    omega
                go_roundw
                case rel => exact ⟨j + 1, by omega, by go_num, by rw [HTS.out]; exact hoa4, hT4, hnu4⟩
                case measure => simp [intOf]; omega
              · have e : j = N := by omega
                subst e
                have d2 : decide ((j : Int) < j) = false := decide_eq_false (by omega)
                have hoaE : OAt w wr P bl ⟨cx, cy, cz⟩ M2 (O ++ T) (.slice B' (O ++ T.take j).length cB') := by
                  rw [HN.out, List.take_length] at hoaj
                  rw [HN.out, List.take_length]
                  exact hoaj
                have hgl := hoaE.st.goodL
                have hrm := HRM.out M2 hgl
                have hmn := hgl.many_le
                have hln := hgl.len
                have HST := Lib.hid hoaE.st
                have CRM := Lib.hid (fun W (h : Only [] wr W) => lRoom_st (HST.out.still h))
                have CTK := Lib.hid (fun W (h : Only [] wr W) => lTaken_st (HST.out.still h))
                have CSP := Lib.hid (fun W (h : Only [] wr W) => lSpans_st (HST.out.still h))
                have HOE := Lib.hid hoaE
                have hbx := hoaE.box
                clear hoaj hnu hownT hroj hgl HST hoaE
                generalize roomOf M2 = rm at *
                generalize manyOf M2 = mn at *
                generalize M2.length = S at *
                have htot : 0 ≤ (S : Int) * ob ∧ (S : Int) * ob ≤ 131072 := by
                  refine ⟨Int.mul_nonneg (by omega) (by omega), ?_⟩
                  have := mul_mono (a := (S : Int)) (b := 1024) (c := ob) (d := 128) (by omega) (by omega) (by omega) (by omega)
                  omega
                generalize (O ++ T.take j).length = K at *
                generalize htt : (S : Int) * ob = tot at *
                have hwr1 : IntKind.i64.wrap (rm + mn) = tot := by rw [IntWalk.i64_in _ (by omega)]; exact hrm
                have hwr2 : IntKind.i64.wrap ((S : Int) * ob) = tot := by rw [htt, IntWalk.i64_in _ (by omega)]
                have htn : (tot != tot) = false := by simp
                clear hrm htot hmn htt
                go_wp2_with fail
                have hbd := hbx.drew
                have hod := (Only.refl [] wr).drew
                clear hbx
                go_region_held3 (fun w' => w'.cell? ⟨w.heap.size, 0, none⟩ = some (.int .i64 cx) ∧ w'.cell? ⟨w.heap.size, 1, none⟩ = some (.int .i64 cy) ∧ w'.cell? ⟨w.heap.size, 2, none⟩ = some (.int .i64 cz))
                  (refine ⟨Blk.cell_ (t := 23) (cs := #[.int .i64 cx, .int .i64 cy, .int .i64 cz]) ?_ 0 rfl, Blk.cell_ (t := 23) (cs := #[.int .i64 cx, .int .i64 cy, .int .i64 cz]) ?_ 1 rfl, Blk.cell_ (t := 23) (cs := #[.int .i64 cx, .int .i64 cy, .int .i64 cz]) ?_ 2 rfl⟩ <;> assumption)
                  (first
                    | (go_at_call 22; with_reducible refine Grew.use (CRM.out _ hod) (fun wN hoN => ?_); replace hbd := hbd.only hoN (by simp); replace hod := Only.trans hod hoN; clear hoN)
                    | (go_at_call 27; with_reducible refine Grew.use (CTK.out _ hod) (fun wN hoN => ?_); replace hbd := hbd.only hoN (by simp); replace hod := Only.trans hod hoN; clear hoN)
                    | (go_at_call 16; with_reducible refine Calls.mono (CSP.out _ hod) ?_; rintro _ wN ⟨v, rfl, hoN, hownN⟩; obtain ⟨AN, cN, rfl, _⟩ := own_slice hownN; clear hownN; replace hbd := hbd.only hoN (by simp); replace hod := Only.trans hod hoN; clear hoN)
                    | (go_at_call 20; with_reducible refine Grew.use (HOJ.out _) (fun wN hoN => ?_); replace hbd := hbd.only hoN (by simp); replace hod := Only.trans hod hoN; clear hoN))
                all_goals (go_wp2_with fail)
                all_goals go_roundw
                case rel => exact ⟨k + 1, bl, M2, O ++ T, by omega, by go_num, HOE.out.still hod, HON3.out⟩
                case measure => simp [intOf]; omega
          · have k1b : ((xAt l k).k != 1) = true := bne_iff_ne.2 k1
            have CD := Lib.hid (ldo_any HOA.out.st (xAt l k) hokx (H60.out k hlt) (fun h0 ad e hb => by
              have a1 := hold h0 ad e
              have a2 := HOA.out.lb _ hb
              omega))
            have HACT := Lib.hid (Once.act HOA.out.st.goodL HON.out (xAt l k) k1)
            have HPUT := Lib.hid (Once.put HOA.out.st.goodL HON.out (xAt l k))
            have HXW := Lib.hid (fun W (h : Only [] w W) => ((HR.out.still h).at_ hlt).1.o)
            have hxb := hokx.b
            clear hokx hold hoa HX k1
            generalize actE ⟨cx, cy, cz⟩ M (xAt l k) = E at *
            generalize actM ⟨cx, cy, cz⟩ M (xAt l k) = M2 at *
            unfold Ac7.val at CD
            generalize xAt l k = x at *
            obtain ⟨xk, xa, xB, xn, xc, xo⟩ := x
            dsimp only at *
            by_cases hE : E = 0
            · subst hE
              by_cases k2 : xk = 2
              · have HK2 := Lib.hid k2
                subst k2
                clear k1b
                have HP := Lib.hid (HPUT.out rfl rfl)
                clear HPUT HACT
                go_wp2_with fail
                with_reducible refine Calls.mono CD.out ?_
                rintro e w3 ⟨rfl, hT⟩
                obtain ⟨bl3, hoa3⟩ := HOA.out.turn hT
                obtain ⟨y0, y1, y2⟩ := HCS.out w3 hoa3.ho
                obtain ⟨B', cB', e', hro3⟩ := hoa3.reads
                injection e' with e1 _ e3
                subst e1 e3
                have CW := Lib.hid (lwithout_any w3 B O.length cB O xB xn xc xo hro3 (HXW.out w3 hoa3.ho) (by omega) hxb)
                rw [wTo_eq O xo O.length (Nat.le_refl _), List.take_length] at CW
                have HOA3 := Lib.hid hoa3
                clear hoa3 hro3 hT CD
                go_wp2_with fail
                with_reducible refine Calls.mono CW.out ?_
                rintro e w4 ⟨v, rfl, ho4, hown4⟩
                have HOA4 := Lib.hid (HOA3.out.fresh ho4 hown4)
                clear hown4 CW
                go_wp2_with fail
                go_roundw
                case rel => exact ⟨k + 1, bl3, M2, _, by omega, by go_num, HOA4.out, HP.out⟩
                case measure => simp [intOf]; omega
              · have k2b : (xk == 2) = false := beq_eq_false_iff_ne.2 k2
                have HP := Lib.hid (HACT.out (fun h => absurd h k2))
                clear HPUT HACT k2
                go_wp2_with fail
                with_reducible refine Calls.mono CD.out ?_
                rintro e w3 ⟨rfl, hT⟩
                obtain ⟨bl3, hoa3⟩ := HOA.out.turn hT
                obtain ⟨y0, y1, y2⟩ := HCS.out w3 hoa3.ho
                have HOA3 := Lib.hid hoa3
                clear hoa3 hT CD
                go_wp2_with fail
                go_roundw
                case rel => exact ⟨k + 1, bl3, M2, _, by omega, by go_num, HOA3.out, HP.out⟩
                case measure => simp [intOf]; omega
            · have hEb : (E == 0) = false := beq_eq_false_iff_ne.2 hE
              have HP := Lib.hid (HACT.out (fun _ => hE))
              clear HPUT HACT hE
              go_wp2_with fail
              with_reducible refine Calls.mono CD.out ?_
              rintro e w3 ⟨rfl, hT⟩
              obtain ⟨bl3, hoa3⟩ := HOA.out.turn hT
              have HOA3 := Lib.hid hoa3
              clear hoa3 hT CD
              go_wp2_with fail
              go_roundw
              case rel => exact ⟨k + 1, bl3, M2, _, by omega, by go_num, HOA3.out, HP.out⟩
              case measure => simp [intOf]; omega
        · have e : k = n := by omega
          subst e
          have d1 : decide ((k : Int) < k) = false := decide_eq_false (by omega)
          have CTK := Lib.hid (lTaken_st hoa.st)
          rw [HON.out.cnt] at CTK
          clear hoa
          go_wp2_with (first | (go_at_call 27; with_reducible refine Grew.use CTK.out (fun w8 ho8 => ?_)) | (go_at_call 14; with_reducible refine Grew.use (alive_any _) (fun w9 ho9 => ?_)))
          go_ret
          exact ⟨rfl, (HOA.out.ho.trans ho8).trans ho9⟩
    · have HOK := Lib.hid hok
      clear hok
      go_enter Try.func6, Try.ntmps6
      go_wp2_with (first | (go_at_call 13; with_reducible refine Still.use CG.out ?_))
      with_reducible refine Calls.mono CM.out ?_
      rintro e w2 ⟨ho2, _, h1⟩
      rw [h1 HOK.out]
      clear h1
      go_wp2_with (first | (go_at_call 14; with_reducible refine Grew.use (alive_any _) (fun w5 ho5 => ?_)))
      go_ret
      exact ⟨rfl, (HO1.out.trans ho2).trans ho5⟩
end Go.Proofs.Ytlmjelcnldlagaa
