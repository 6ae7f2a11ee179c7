/- TopSchedules, a part of the proof: LO, Tk, Sys. -/
import Derived.Test.YtcidjimefnhacaaGreatDoorM12
import Derived.Test.YtcidjimefnhacaaGreatDoorM07
set_option linter.unusedVariables false
set_option linter.unusedSimpArgs false
namespace Go.Proofs.YtcidjimefnhacaaGreatDoor
open Go.RowKit
theorem ReadsI.pre {w:World} {A:Option Addr} {n:Nat} {l:List Int} (h:ReadsI w A n l) {k:Nat} (hk:k<=n):ReadsI w A k (l.take k):=by
 refine⟨by rw[List.length_take,h.1];omega,fun h0=>?_⟩
 obtain⟨ad,h1,h2⟩:=h.2 (by omega)
 refine⟨ad,h1,fun j hj=>?_⟩
 rw[h2 j (by omega)]
 simp[List.getD_eq_getElem?_getD,List.getElem?_take,hj]
theorem contains_any (w:World) (A:Option Addr) (n cap:Nat) (l:List Int) (v:Int) (h:ReadsI w A n l) (hn:n<=4611686018427387904):Still Tryz.prog 172 #[.slice A n cap,.int .i64 v] w (.bool (decide (0<=idxOf l v))):=by
 have C:=Lib.hid (sindex_any w A n cap l v h hn)
 clear h
 generalize idxOf l v=i at *
 by_cases hi:0<=i
 ·have d1:decide (0<=i)=true:=decide_eq_true hi
  clear hi
  go_enter Tryz.func172,Tryz.ntmps172
  go_wp2_with (go_at_call 180;with_reducible refine Still.use C.out ?_)
  go_ret
  exact⟨by rw[d1];rfl,rfl⟩
 ·have d1:decide (0<=i)=false:=decide_eq_false hi
  clear hi
  go_enter Tryz.func172,Tryz.ntmps172
  go_wp2_with (go_at_call 180;with_reducible refine Still.use C.out ?_)
  go_ret
  exact⟨by rw[d1];rfl,rfl⟩
theorem lIsTaken_st {w:World} {P:Nat} {bl:List Nat} {c:Cl} {M:List Sp} (h:ListSt w P bl c M) (a:Int) (ha:I64 a):
 Grew Tryz.prog 145 #[.pointer (some ⟨P,0,none⟩),.int .i64 a] w (.tuple #[.bool (isTk M a).1,.int .i64 (isTk M a).2]):=by
 obtain⟨⟨A,L,h1,rfl,h3⟩,h4⟩:=h
 exact lIsTaken_at h1 a ha
theorem freeOne_of {M:List Sp} {a:Int} {j:Nat} (h:ofI M a=some j):freeOne M a=M.set j ((sAt M j).free a).2:=by unfold freeOne;rw[h]
theorem badTo_err {M:List Sp} {o:List Int} {n k:Nat} (hk:k<n) (h:(isTk M (iAt o k)).2≠0):badTo M o n=true:=by
 induction n with
 |zero=>omega
 |succ n ih=>
  rw[badTo]
  by_cases e:k=n
  ·subst e
   rw[show((isTk M (iAt o k)).2 != 0)=true from bne_iff_ne.2 h,Bool.or_true]
  ·rw[ih (by omega)];rfl
set_option maxRecDepth 100000 in
set_option maxHeartbeats 8000000 in
theorem lPut_at {w:World} {P:Nat} {bl:List Nat} {c:Cl} {M:List Sp} (h:ListSt w P bl c M) (B:Option Addr) (n cap:Nat) (o:List Int) (ho:ReadsI w B n o) (hi:∀j,j<n->I64 (iAt o j)) (hn:n<=1000000) (hcap:n<=cap) (hB:0<n->∀ad,B=some ad->ad.block∉bl):
 Calls Tryz.prog 147 #[.pointer (some ⟨P,0,none⟩),.slice B n cap] w fun e w'=>∃v,e=.returned (.tuple #[v,.int .i64 (putE M o)])/\Only bl w w'/\ListSt w' P bl c (putM M o)/\w'.ownsRow w.heap.size 243 2 v (putR M o).length (cellsR (putR M o)):=by
 have CM:=Lib.hid (lmade_st h)
 have HS:=Lib.hid h
 have HG:=Lib.hid h.goodL
 have HR:=Lib.hid ho
 have HI:=Lib.hid hi
 have HB:=Lib.hid hB
 have hlen:=ho.1
 have HLEN:=Lib.hid ho.1
 clear h ho hi hB hlen
 go_enter Tryz.func147,Tryz.ntmps147
 go_wp2_with (first|(go_at_call 130;with_reducible refine Still.use CM.out ?_))
 go_loopw[6,19] (fun u t wr=>∃k:Nat,k<=n/\u=.bool (twiceTo M o k)/\t=.int .i64 k/\Only [] w wr/\badTo M o k=false) (fun _ t _=>n-(intOf t).toNat)
 case atStart=>exact⟨0,Nat.zero_le _,rfl,rfl,Only.refl _ _,rfl⟩
 case round=>
  obtain⟨k,hk,rfl,rfl,hoW,hbad⟩:=hrel
  have HBAD:=Lib.hid hbad
  clear hbad
  by_cases hlt:k<n
  ·have d1:decide ((k:Int)<n)=true:=decide_eq_true (by omega)
   have hrd:=HR.out.only hoW (by simp)
   obtain⟨ad,rfl,hc⟩:=hrd.2 (by omega)
   have c0:=hc k hlt
   have CT:=Lib.hid (lIsTaken_st (HS.out.still hoW) (iAt o k) (HI.out k hlt))
   have hc8:=isTk_cases HG.out (iAt o k)
   have HC8:=Lib.hid (fun (h:(isTk M (iAt o k)).2≠0)=>badTo_err (n:=n) hlt h)
   have HBS:Hid (badTo M o (k+1)=(badTo M o k||(isTk M (iAt o k)).2 != 0)):=rfl
   have HTS:Hid (twiceTo M o (k+1)=((twiceTo M o k|| !(isTk M (iAt o k)).1)||decide (0<=idxOf (o.take k) (iAt o k)))):=rfl
   have HCN:=Lib.hid (fun w1 (h1:Only [] w w1)=>contains_any w1 (some ad) k cap (o.take k) (iAt o k) ((HR.out.only h1 (by simp)).pre (by omega)) (by omega))
   have hkc:(k:Int)<=(cap:Int):=by omega
   change wr.cell? (ad.add k)=some (.int .i64 (iAt o k)) at c0
   clear hc hrd
   generalize iAt o k=x at *
   generalize (isTk M x).1=b1 at *
   generalize (isTk M x).2=b2 at *
   generalize decide (0<=idxOf (o.take k) x)=b3 at *
   generalize twiceTo M o k=tw at *
   by_cases h0:b2=0
   ·subst h0
    have HB2:Hid (badTo M o (k+1)=false):=by show _=_;rw[HBS.out,HBAD.out];rfl
    cases tw with
    |true=>
     go_wp2_with (first|(go_at_call 145;with_reducible refine Grew.use CT.out (fun w1 ho1=>?_)))
     go_roundw
     case rel=>exact⟨k+1,by omega,by rw[HTS.out]<;>rfl,by go_num,hoW.trans ho1,HB2.out⟩
     case measure=>simp[intOf];omega
    |false=>
     cases b1 with
     |false=>
      go_wp2_with (first|(go_at_call 145;with_reducible refine Grew.use CT.out (fun w1 ho1=>?_)))
      go_roundw
      case rel=>exact⟨k+1,by omega,by rw[HTS.out]<;>rfl,by go_num,hoW.trans ho1,HB2.out⟩
      case measure=>simp[intOf];omega
     |true=>
      go_wp2_with (first|(go_at_call 145;with_reducible refine Grew.use CT.out (fun w1 ho1=>?_))|(go_at_call 172;with_reducible refine Still.use (HCN.out _ (hoW.trans ho1)) ?_))
      go_roundw
      case rel=>exact⟨k+1,by omega,by rw[HTS.out]<;>rfl,by go_num,hoW.trans ho1,HB2.out⟩
      case measure=>simp[intOf];omega
   ·have h8:b2=8:=by
     rcases hc8 with h|h
     ·exact absurd h h0
     ·exact h
    subst h8
    have E1:Hid (putE M o=8):=by show _=_;rw[putE,HLEN.out,HC8.out (by decide)];rfl
    clear h0 hc8 HC8 HBS
    go_wp2_with (go_at_call 145;with_reducible refine Grew.use CT.out (fun w1 ho1=>?_))
    go_ret2
    have e2:putM M o=M:=by rw[putM,E1.out,if_neg (by decide)]
    have e3:putR M o=[]:=by rw[putR,E1.out,if_neg (by decide)]
    exact⟨_,by rw[E1.out];rfl,(hoW.trans ho1).of_nil,by rw[e2];exact HS.out.still (hoW.trans ho1),by rw[e3];exact World.ownsRow_nil _ _ _ _⟩
  ·have e:k=n:=by omega
   subst e
   have d1:decide ((k:Int)<k)=false:=decide_eq_false (by omega)
   cases htw:twiceTo M o k with
   |true=>
    have E1:Hid (putE M o=9):=by show _=_;rw[putE,HLEN.out,HBAD.out,htw];rfl
    clear htw
    go_wp2_with fail
    go_ret2
    have e2:putM M o=M:=by rw[putM,E1.out,if_neg (by decide)]
    have e3:putR M o=[]:=by rw[putR,E1.out,if_neg (by decide)]
    exact⟨_,by rw[E1.out];rfl,hoW.of_nil,by rw[e2];exact HS.out.still hoW,by rw[e3];exact World.ownsRow_nil _ _ _ _⟩
   |false=>
    have E1:Hid (putE M o=0):=by show _=_;rw[putE,HLEN.out,HBAD.out,htw];rfl
    have HTK:=Lib.hid (fun i (hi:i<=k)=>freeTo_tk HG.out (o:=o) i (by rw[HLEN.out];exact hi) (by rw[HLEN.out];exact HBAD.out) (by rw[HLEN.out];exact htw))
    have hW0:=HS.out.still hoW
    have HW0:=Lib.hid hW0
    clear htw hW0
    go_wp2_with fail
    have HKN:Hid (o.length=k):=HLEN.out
    go_loopw[49] (fun t wr=>∃i:Nat,i<=k/\t=.int .i64 i/\Only bl w wr/\ListSt wr P bl c (freeTo M o i)) (fun t _=>k-(intOf t).toNat)
    case atStart=>exact⟨0,Nat.zero_le _,rfl,hoW.of_nil,HW0.out⟩
    case round=>
     obtain⟨i,hi,rfl,ho2,hst⟩:=hrel
     by_cases hlt2:i<k
     ·have d2:decide ((i:Int)<k)=true:=decide_eq_true (by omega)
      have hrd:=HR.out.only ho2 (fun ad e=>HB.out (by omega) ad e)
      obtain⟨ad,rfl,hc⟩:=hrd.2 (by omega)
      have c0:=hc i hlt2
      change wr.cell? (ad.add i)=some (.int .i64 (iAt o i)) at c0
      have htk:=(HTK.out i (by omega)).2 i (Nat.le_refl _) (by rw[HKN.out];exact hlt2)
      have HX:=Lib.hid (HI.out i hlt2)
      have HFS:Hid (freeTo M o (i+1)=freeOne (freeTo M o i) (iAt o i)):=rfl
      obtain⟨⟨A,L,hA,hM,hIn⟩,hltb⟩:=hst
      rw[<-hM] at htk HFS
      obtain⟨j,j1,j2,j3,j4⟩:=isTk_yes htk
      rw[spans_len] at j2
      rw[sAt_spans] at j3 j4
      have HF:=Lib.hid (freeOne_of j1)
      rw[sAt_spans,Sp.free_ok j3 j4] at HF
      have CO:=Lib.hid (of_at hA (iAt o i) HX.out)
      have HA:=Lib.hid hA
      have HIN:=Lib.hid hIn
      have HLTB:=Lib.hid hltb
      have HJ:=Lib.hid j1
      have HJ2:=Lib.hid j2
      have HFO:=Lib.hid (Sp.free_ok j3 j4)
      have HJ4:=Lib.hid j4
      generalize iAt o i=x at *
      clear hM hc hrd htk hA hIn hltb j1 j2 j3 j4
      go_wp2_with fail
      refine CO.out.mono ?_
      rintro e w2 ⟨ho3,⟨j',g,h1,h2,h3,rfl⟩|⟨h1,rfl⟩⟩
      ·obtain rfl:j'=j:=by
        rw[HJ.out] at h1
        injection h1 with h1
        exact h1.symm
       have hr:=HA.out.still ho3
       obtain⟨g',cp',rfl⟩:=hr.form (by omega)
       obtain rfl:g'=g:=by injection h3
       obtain⟨q0,q1,q2,qf⟩:=own_ents hr.row rfl h2
       have hsp:=(hr.get h2).1
       obtain⟨m1,m2⟩:=hsp.good.many
       have m3:=hsp.good.len
       have CP:=Lib.hid (Put_at hsp x HX.out.1 HX.out.2)
       rw[HFO.out] at CP
       have hneB:=hr.ne _ (eAt_mem h2)
       have gne:g'∉ [(eAt L j').p,(eAt L j').q]:=by
        simp
        exact⟨fun e=>hneB.2.2.1 (by rw[e];rfl),fun e=>hneB.2.2.2 (by rw[e];rfl)⟩
       have HR2:=Lib.hid hr
       have HMANY:Hid (((eAt L j').s.put ((eAt L j').s.obj x).1.toNat 0).many=(eAt L j').s.many -1):=by
        show(eAt L j').s.many+(0-(eAt L j').s.st.getD ((eAt L j').s.obj x).1.toNat 0)=_
        rw[HJ4.out]
        omega
       have HGNE:=Lib.hid gne
       have HQF:=Lib.hid qf
       have HQ0:=Lib.hid q0
       clear h1 h3 hr hsp hneB gne qf
       go_wp2_with fail
       refine CP.out.mono ?_
       rintro e w3 ⟨rfl,hsp3,ho4⟩
       have y0:=(ho4.cell (World.block_lt_of_cell? w2 _ HQ0.out) HGNE.out).trans HQ0.out
       have yf:=(ho4.frozen (World.block_lt_of_cell? w2 _ HQ0.out) HGNE.out).trans (HQF.out (j'*3))
       have hstp:=HR2.out.step rfl HJ2.out hsp3 ho4 rfl rfl rfl rfl
       rw[HMANY.out] at hstp
       have HSTP:=Lib.hid hstp
       have HO4:=Lib.hid ho4
       clear hstp hsp3 q0 q1 q2 ho4
       generalize hmb:(eAt L j').s.many=mb at *
       go_wp2_with fail
       go_roundw
       case rel=>
        have hin:=HIN.out.e _ (eAt_mem HJ2.out)
        have hoF:Only bl w (w3.setCell ⟨g',j'*3,none⟩ (.int .i64 (mb-1))):=((ho2.trans ho3.of_nil).trans (HO4.out.mono (fun y hy=>by
         simp at hy
         rcases hy with rfl|rfl
         ·exact hin.1
         ·exact hin.2))).setCell (.inl (HIN.out.a g' rfl)) _
        refine⟨i+1,by omega,by go_num,hoF,?_⟩
        rw[HFS.out,HF.out]
        refine ListSt.set HJ2.out HSTP.out HIN.out (fun y hy=>?_)
        have a1:=HLTB.out y hy
        have a2:=ho3.size
        have a3:=HO4.out.size
        simp
        omega
       case measure=>simp[intOf];omega
      ·rw[HJ.out] at h1
       cases h1
     ·have e:i=k:=by omega
      subst e
      have d2:decide ((i:Int)<i)=false:=decide_eq_false (by omega)
      have CS:=Lib.hid (lSweep_at hst)
      have e2:Hid (putM M o=keptOf (freeTo M o i)):=by show _=_;rw[putM,E1.out,if_pos rfl,HKN.out]
      have e3:Hid (putR M o=zeroOf (freeTo M o i)):=by show _=_;rw[putR,E1.out,if_pos rfl,HKN.out]
      clear hst
      go_wp2_with fail
      refine CS.out.mono ?_
      rintro e w3 ⟨v,rfl,hown,ho3,hst3⟩
      have HOWN:=Lib.hid hown
      have HST3:=Lib.hid hst3
      clear hown hst3
      go_wp2_with fail
      go_ret2
      exact⟨v,by rw[E1.out];rfl,ho2.trans ho3,by rw[e2.out];exact HST3.out,by rw[e3.out];exact own_mono HOWN.out ho2.size⟩
theorem GoodL.of_obj {c:Cl} {M:List Sp} (hg:GoodL c M) {i k:Nat} (hi:i<M.length) (hk:k<(sAt M i).st.length):ofI M ((sAt M i).start *256+k*c.size)=some i/\(sAt M i).idx ((sAt M i).start *256+k*c.size)=((k:Int),(0:Int)):=by
 obtain⟨g,h1,h2,h3⟩:=hg.sp i hi
 have hx:=idx_of_obj g (i:=k) (m:=0) (by omega) (by omega) (by omega) (by have:=g.s1;omega)
 rw[Int.add_zero,h1] at hx
 refine⟨ofI_some hi (by rw[hx]) (fun j hj he=>?_),hx⟩
 obtain⟨gj,j1,j2,j3⟩:=hg.sp j (by omega)
 have ho:=hg.ord j i hj hi
 have hkk:(0:Int)<=(k:Int)*c.size:=Int.mul_nonneg (by omega) (by have:=g.s1;omega)
 have hn2:=gj.n2
 have hb:=gj.b1
 unfold Sp.idx at he
 split at he
 ·cases he
 ·split at he
  ·cases he
  ·rename_i _ hlt
   rw[j2] at hn2 ho
   omega
theorem GoodL.tk_obj {c:Cl} {M:List Sp} (hg:GoodL c M) {i k:Nat} (hi:i<M.length) (hk:k<(sAt M i).st.length):isTk M ((sAt M i).start *256+k*c.size)=((sAt M i).st.getD k 0==1,0):=by
 obtain⟨h1,h2⟩:=hg.of_obj hi hk
 rw[isTk_of h1]
 have ho:(sAt M i).obj ((sAt M i).start *256+k*c.size)=((k:Int),(0:Int)):=by
  unfold Sp.obj Sp.at_
  rw[h2,if_pos rfl,(hg.sp i hi).2.1,if_pos rfl]
 unfold Sp.tkn
 rw[ho,if_pos rfl,Int.toNat_natCast]
theorem sAt_mem {M:List Sp} {j:Nat} (h:j<M.length):sAt M j∈M:=by
 rw[sAt,List.getD_eq_getElem?_getD,List.getElem?_eq_getElem h]
 exact List.getElem_mem h
def TK (c:Cl) (M:List Sp) (a:Int):Prop:=∃s∈M,∃k:Nat,k<s.st.length/\s.st.getD k 0=1/\a=s.start*256+k*c.size
theorem TK.at_ {c:Cl} {M:List Sp} {a:Int}:TK c M a↔∃i k:Nat,i<M.length/\k<(sAt M i).st.length/\(sAt M i).st.getD k 0=1/\a=(sAt M i).start *256+k*c.size:=by
 constructor
 ·rintro ⟨s,hs,k,h⟩
  obtain⟨i,hi,rfl⟩:=List.getElem_of_mem hs
  refine⟨i,k,hi,?_⟩
  rw[sAt,List.getD_eq_getElem?_getD,List.getElem?_eq_getElem hi]
  exact h
 ·rintro ⟨i,k,hi,h⟩
  exact⟨_,sAt_mem hi,k,h⟩
theorem tk_iff {c:Cl} {M:List Sp} (hg:GoodL c M) (a:Int):isTk M a=(true,0)↔TK c M a:=by
 constructor
 ·intro h
  obtain⟨j,j1,j2,j3,j4⟩:=isTk_yes h
  obtain⟨r1,r2,_⟩:=Sp.obj_range (hg.sp j j2).1 a
  refine TK.at_.2 ⟨j,((sAt M j).obj a).1.toNat,j2,by omega,j4,?_⟩
  have:=Sp.obj_addr j3
  rw[(hg.sp j j2).2.1] at this
  rw[Int.toNat_of_nonneg r1]
  exact this.symm
 ·intro h
  obtain⟨i,k,hi,hk,h1,rfl⟩:=TK.at_.1 h
  rw[hg.tk_obj hi hk,h1]
  rfl
theorem obj_inj {c:Cl} {M:List Sp} (hg:GoodL c M) {i j k m:Nat} (hi:i<M.length) (hk:k<(sAt M i).st.length) (hj:j<M.length) (hm:m<(sAt M j).st.length) (h:(sAt M i).start *256+(k:Int)*c.size=(sAt M j).start *256+(m:Int)*c.size):i=j/\k=m:=by
 have h1:=hg.of_obj hi hk
 have h2:=hg.of_obj hj hm
 rw[<-h] at h2
 have e:some i=some j:=h1.1.symm.trans h2.1
 injection e with e
 subst e
 have e2:=h1.2.symm.trans h2.2
 injection e2 with e2
 exact⟨rfl,by omega⟩
theorem put_getD (s:Sp) (k:Nat) (v:Int) (m:Nat) (hk:k<s.st.length):(s.put k v).st.getD m 0=if k=m then v else s.st.getD m 0:=by
 simp only[Sp.put,List.getD_eq_getElem?_getD,List.getElem?_set]
 by_cases h:k=m
 ·subst h;simp[hk]
 ·simp[h]
theorem put_len (s:Sp) (k:Nat) (v:Int):(s.put k v).st.length=s.st.length:=by simp[Sp.put]
theorem TK_set {c:Cl} {M:List Sp} (hg:GoodL c M) {i k:Nat} (hi:i<M.length) (hk:k<(sAt M i).st.length) (v:Int) (a:Int):
 TK c (M.set i ((sAt M i).put k v)) a↔if a=(sAt M i).start *256+k*c.size then v=1 else TK c M a:=by
 constructor
 ·intro h
  obtain⟨j,m,hj,hm,h1,rfl⟩:=TK.at_.1 h
  rw[List.length_set] at hj
  rw[sAt_set _ hi] at hm h1 ⊢
  by_cases e:i=j
  ·subst e
   rw[if_pos rfl] at hm h1 ⊢
   rw[put_len] at hm
   rw[put_getD _ _ _ _ hk] at h1
   show if(sAt M i).start *256+m*c.size=(sAt M i).start *256+k*c.size then v=1 else TK c M ((sAt M i).start *256+m*c.size)
   by_cases e2:k=m
   ·subst e2
    rw[if_pos rfl] at h1
    rw[if_pos rfl]
    exact h1
   ·rw[if_neg e2] at h1
    rw[if_neg (fun h=>e2 (obj_inj hg hi hk hi hm h.symm).2)]
    exact TK.at_.2 ⟨i,m,hi,hm,h1,rfl⟩
  ·rw[if_neg e] at hm h1 ⊢
   rw[if_neg (fun h=>e (obj_inj hg hi hk hj hm h.symm).1)]
   exact TK.at_.2 ⟨j,m,hj,hm,h1,rfl⟩
 ·intro h
  by_cases e:a=(sAt M i).start *256+k*c.size
  ·rw[if_pos e] at h
   subst h
   refine TK.at_.2 ⟨i,k,by rw[List.length_set];exact hi,?_⟩
   rw[sAt_set _ hi,if_pos rfl,put_len,put_getD _ _ _ _ hk,if_pos rfl]
   exact⟨hk,rfl,e⟩
  ·rw[if_neg e] at h
   obtain⟨j,m,hj,hm,h1,rfl⟩:=TK.at_.1 h
   refine TK.at_.2 ⟨j,m,by rw[List.length_set];exact hj,?_⟩
   rw[sAt_set _ hi]
   by_cases e1:i=j
   ·subst e1
    have e2:k≠m:=fun h=>e (by rw[h])
    rw[if_pos rfl,put_len,put_getD _ _ _ _ hk,if_neg e2]
    exact⟨hm,h1,rfl⟩
   ·rw[if_neg e1]
    exact⟨hm,h1,rfl⟩
theorem GoodL.of_like {c:Cl} {M N:List Sp} (hg:GoodL c M) (hl:Like N M) (h:∀j,j<M.length->(sAt N j).Good):GoodL c N:=by
 refine⟨hg.ok,fun j hj=>?_,fun k j hkj hj=>?_,by rw[hl.1];exact hg.len⟩
 ·have hj':j<M.length:=by rw[<-hl.1];exact hj
  have h1:=hl.2 j hj
  exact⟨h j hj',h1.2.1.trans (hg.sp j hj').2.1,h1.2.2.1.trans (hg.sp j hj').2.2.1,h1.2.2.2.1.trans (hg.sp j hj').2.2.2⟩
 ·have h1:=hl.2 k (by omega)
  have h2:=hl.2 j hj
  rw[h1.1,h1.2.2.1,h2.1]
  exact hg.ord k j hkj (by rw[<-hl.1];exact hj)
theorem TK_take {c:Cl} {M:List Sp} {b:Nat} (hg:GoodL c M) (hb:bestTo M M.length=some b):GoodL c (M.set b (sAt M b).take.2)/\¬TK c M (sAt M b).take.1.1/\∀a,TK c (M.set b (sAt M b).take.2) a↔a=(sAt M b).take.1.1\/TK c M a:=by
 obtain⟨hl,hr⟩:=bestTo_lt _ _ _ hb
 obtain⟨kk,i1,i2,i3,i4⟩:=Sp.take_room (hg.sp b hl).1 hr
 have hs:=(hg.sp b hl).2.1
 refine⟨hg.of_like ((Like.refl M).set (Sp.take_like _)) (fun j hj=>?_),?_⟩
 ·rw[sAt_set _ hl,i4]
  split
  ·exact(hg.sp b hl).1.put i2 (.inr rfl)
  ·exact(hg.sp j hj).1
 rw[i4]
 dsimp only
 rw[hs]
 constructor
 ·intro h
  obtain⟨j,m,hj,hm,h1,h2⟩:=TK.at_.1 h
  obtain⟨e1,e2⟩:=obj_inj hg hl i2 hj hm h2
  subst e1 e2
  rw[i3] at h1
  cases h1
 ·intro a
  rw[TK_set hg hl i2]
  by_cases e:a=(sAt M b).start *256+kk*c.size
  ·rw[if_pos e];exact⟨fun _=>.inl e,fun _=>rfl⟩
  ·rw[if_neg e];exact⟨fun h=>.inr h,fun h=>h.resolve_left e⟩
theorem TK_free {c:Cl} {M:List Sp} (hg:GoodL c M) {a:Int} (ha:isTk M a=(true,0)):(∀b,TK c (freeOne M a) b↔b≠a/\TK c M b)/\manyOf (freeOne M a)+1=manyOf M:=by
 obtain⟨i,i1,i2,i3,i4⟩:=isTk_yes ha
 obtain⟨r1,r2,_⟩:=Sp.obj_range (hg.sp i i2).1 a
 have hk:((sAt M i).obj a).1.toNat<(sAt M i).st.length:=by omega
 have e0:=Sp.obj_addr i3
 rw[(hg.sp i i2).2.1] at e0
 have e:freeOne M a=M.set i ((sAt M i).put ((sAt M i).obj a).1.toNat 0):=by
  unfold freeOne
  rw[i1]
  show M.set i ((sAt M i).free a).2=_
  rw[Sp.free_ok i3 i4]
 rw[e]
 constructor
 ·intro b
  rw[TK_set hg i2 hk,Int.toNat_of_nonneg r1,e0]
  by_cases e1:b=a
  ·rw[if_pos e1];exact⟨fun h=>by omega,fun h=>absurd e1 h.1⟩
  ·rw[if_neg e1];exact⟨fun h=>⟨e1,h⟩,fun h=>h.2⟩
 ·dsimp only[manyOf]
  rw[List.length_set,manyTo_set _ i2,if_pos i2]
  show _+((sAt M i).many+(0-(sAt M i).st.getD ((sAt M i).obj a).1.toNat 0)-(sAt M i).many)+1=_
  rw[i4]
  omega
theorem Sp.Good.many_pos {s:Sp} (h:s.Good) {k:Nat} (hk:k<s.st.length) (h1:s.st.getD k 0=1):1<=s.many:=by
 have:=(h.put hk (v:=0) (.inl rfl)).many.1
 have e:(s.put k 0).many=s.many+(0-s.st.getD k 0):=rfl
 rw[e,h1] at this
 omega
theorem GoodL.mem {c:Cl} {M:List Sp} (hg:GoodL c M) {s:Sp} (hs:s∈M):s.Good:=by
 obtain⟨i,hi,rfl⟩:=List.getElem_of_mem hs
 have:=(hg.sp i hi).1
 rw[sAt,List.getD_eq_getElem?_getD,List.getElem?_eq_getElem hi] at this
 exact this
theorem TK_kept {c:Cl} {M:List Sp} (hg:GoodL c M) (a:Int):TK c (keptOf M) a↔TK c M a:=by
 constructor
 ·rintro ⟨s,hs,h⟩
  exact⟨s,(List.mem_filter.1 hs).1,h⟩
 ·rintro ⟨s,hs,k,hk,h1,h2⟩
  refine⟨s,List.mem_filter.2 ⟨hs,?_⟩,k,hk,h1,h2⟩
  have:=(hg.mem hs).many_pos hk h1
  simp
  omega
theorem TK_add {c:Cl} {M:List Sp} (x a:Int):TK c (addM M c x) a↔TK c M a:=by
 unfold addM
 split
 ·constructor
  ·rintro ⟨s,hs,k,hk,h1,h2⟩
   simp at hs
   rcases hs with hs|rfl|hs
   ·exact⟨s,List.mem_of_mem_take hs,k,hk,h1,h2⟩
   ·exfalso
    simp[Sp.fresh,List.getD_eq_getElem?_getD,List.getElem?_replicate] at h1
    split at h1<;>simp at h1
   ·exact⟨s,List.mem_of_mem_drop hs,k,hk,h1,h2⟩
  ·rintro ⟨s,hs,h⟩
   refine⟨s,?_,h⟩
   rw[<-List.take_append_drop (posTo M x M.length) M] at hs
   rcases List.mem_append.1 hs with h|h
   ·simp[h]
   ·simp[h]
 ·exact Iff.rfl
structure Framed (St:World->List Nat->Prop):Prop where
 only:∀{w w':World} {fp l:List Nat},St w fp->Only l w w'->(∀b∈fp,b∉l)->St w' fp
 lt:∀{w:World} {fp:List Nat},St w fp->∀b∈fp,b<w.heap.size
theorem Framed.still {St:World->List Nat->Prop} (F:Framed St) {w w':World} {fp:List Nat} (h:St w fp) (ho:Only [] w w'):St w' fp:=F.only h ho (by simp)
def Turns (St:World->List Nat->Prop) (w:World) (fp:List Nat) (w':World):Prop:=Only fp w w'/\∃fp',St w' fp'/\∀b∈fp',b∈fp\/w.heap.size<=b
namespace Turns
variable {St St':World->List Nat->Prop} {w w1 w2:World} {fp fp1:List Nat}
theorem same (F:Framed St) (h:St w fp) (ho:Only [] w w1):Turns St w fp w1:=⟨ho.of_nil,fp,F.still h ho,fun b hb=>.inl hb⟩
theorem in_ (ho:Only fp w w1) (h:St w1 fp):Turns St w fp w1:=⟨ho,fp,h,fun b hb=>.inl hb⟩
theorem mono (h:Turns St w fp w1) (hm:∀fp,St w1 fp->St' w1 fp):Turns St' w fp w1:=by obtain⟨h1,f,h2,h3⟩:=h;exact⟨h1,f,hm f h2,h3⟩
theorem step (ho:Only fp w w1) (hl:∀b∈fp1,b∈fp\/w.heap.size<=b) (h:Turns St w1 fp1 w2):Turns St w fp w2:=by
 obtain⟨h1,l2,h2,h3⟩:=h
 refine⟨ho.then_ h1 hl,l2,h2,fun b hb=>?_⟩
 rcases h3 b hb with h4|h4
 ·exact hl b h4
 ·exact .inr (Nat.le_trans ho.size h4)
theorem first (ho:Only [] w w1) (h:Turns St w1 fp w2):Turns St w fp w2:=step ho.of_nil (fun b hb=>.inl hb) h
theorem last (F:Framed St) (h:Turns St w fp w1) (ho:Only [] w1 w2):Turns St w fp w2:=by
 obtain⟨h1,l2,h2,h3⟩:=h
 exact⟨h1.trans ho.of_nil,l2,F.still h2 ho,h3⟩
end Turns
theorem own_lt' {w:World} {base:Nat} {e:TypeId} {size n:Nat} {v:Value} {xs:List Value} (h:w.ownsRow base e size v n xs):∀k,v.ownBlock=some k->k<w.heap.size:=by
 intro k hk
 rcases h.2 with ⟨rfl,_⟩|⟨g,cap,cur,rfl,_,hg,_⟩
 ·cases hk
 ·have:g=k:=by injection hk
  subst this
  exact(show Blk w g e cur from hg).lt
structure ISl (w:World) (v:Value) (b:Nat) (l:List Int):Prop where
 ex:∃off cap,v=.slice (some ⟨b,off,none⟩) l.length cap/\l.length<=cap/\∀j,j<l.length->w.cell? ⟨b,off+j,none⟩=some (.int .i64 (l.getD j 0))
 lt:b<w.heap.size
namespace ISl
variable {w w':World} {v:Value} {b:Nat} {l:List Int}
theorem only {L:List Nat} (h:ISl w v b l) (ho:Only L w w') (hb:b∉L):ISl w' v b l:=by
 obtain⟨⟨off,cap,h1,h2,h3⟩,h4⟩:=h
 exact⟨⟨off,cap,h1,h2,fun j hj=>(ho.cell (p:=⟨b,off+j,none⟩) h4 hb).trans (h3 j hj)⟩,Nat.lt_of_lt_of_le h4 ho.size⟩
theorem still (h:ISl w v b l) (ho:Only [] w w'):ISl w' v b l:=h.only ho (by simp)
theorem reads (h:ISl w v b l):∃ad cap,v=.slice (some ad) l.length cap/\l.length<=cap/\ad.block=b/\ReadsI w (some ad) l.length l:=by
 obtain⟨⟨off,cap,h1,h2,h3⟩,h4⟩:=h
 refine⟨⟨b,off,none⟩,cap,h1,h2,rfl,rfl,fun h0=>⟨_,rfl,fun j hj=>?_⟩⟩
 have:(⟨b,off,none⟩:Addr).add j=⟨b,off+j,none⟩:=by unfold Addr.add;split<;>simp_all
 rw[this]
 exact h3 j hj
theorem of_own {base:Nat} {n g c:Nat} (h:w.ownsRow base 3 1 (.slice (some ⟨g,0,none⟩) n c) n (l.map (Value.int .i64))) (hn:n=l.length):ISl w (.slice (some ⟨g,0,none⟩) n c) g l:=by
 subst hn
 rcases h.2 with ⟨h2,_⟩|⟨g',cap,cur,hv,hb,hg,h3,h4,h5,h6⟩
 ·cases h2
 ·injection hv with e1 _ e3
  injection e1 with e1
  injection e1 with e1 _ _
  subst e1 e3
  have hB:Blk w g 3 cur:=hg
  refine⟨⟨0,c,rfl,h3,fun j hj=>?_⟩,hB.lt⟩
  rw[Nat.zero_add]
  refine hB.cell_ j ?_
  rw[<-Array.getElem?_toList]
  have:(l.map (Value.int .i64))[j]? =some (.int .i64 (l.getD j 0)):=by simp[List.getD_eq_getElem?_getD,List.getElem?_eq_getElem hj]
  rw[<-this,<-h6,List.getElem?_take,if_pos (by omega)]
end ISl
end Go.Proofs.YtcidjimefnhacaaGreatDoor
