/- TopSchedules, a part of the proof: LI, LJ, LK. -/
import Derived.Test.YtcidjimefnhacaaGreatDoorM10
import Derived.Deep.RegionLaw
import Derived.Deep.AppendLies
set_option linter.unusedVariables false
set_option linter.unusedSimpArgs false
namespace Go.Proofs.YtcidjimefnhacaaGreatDoor
open Go.RowKit
theorem own_lt {w:World} {base:Nat} {e:TypeId} {size n:Nat} {v:Value} {xs:List Value} (h:w.ownsRow base e size v n xs):∀k,v.ownBlock=some k->k<w.heap.size:=by
 intro k hk
 rcases h.2 with ⟨rfl,_⟩|⟨g,cap,cur,rfl,_,hg,_⟩
 ·cases hk
 ·have:g=k:=by injection hk
  subst this
  exact(show Blk w g e cur from hg).lt
theorem Sp.fits_range {x size pages batch:Int} (h:Sp.fits x size pages batch):0<=x/\x<=1024/\1<=pages/\pages<=4:=by
 obtain⟨⟨_,_,_,h1,h2,_⟩,h3,h4⟩:=h
 omega
set_option maxRecDepth 100000 in
set_option maxHeartbeats 8000000 in
theorem lAdd_at {w:World} {P:Nat} {bl:List Nat} {c:Cl} {M:List Sp} (h:ListSt w P bl c M) (x:Int) (hx:I64 x):
 Calls Tryz.prog 108 #[.pointer (some ⟨P,0,none⟩),.int .i64 x] w fun e w'=>e=.returned (.int .i64 (addE M c x))/\LTurn w P bl w' c (addM M c x):=by
 have CM:=Lib.hid (lmade_st h)
 obtain⟨⟨A,L,hA,rfl,hI⟩,hlt0⟩:=h
 have HA:=Lib.hid hA
 have HI:=Lib.hid hI
 have HLT:=Lib.hid hlt0
 have CN:=Lib.hid (New_any w x c.size c.pages c.batch hx.1 hx.2)
 have z0:=hA.blk.cell_ 0 rfl
 have z1:=hA.blk.cell_ 1 rfl
 have z2:=hA.blk.cell_ 2 rfl
 clear hA hI hlt0
 by_cases hf:¬Sp.fits x c.size c.pages c.batch
 ·have HF:=Lib.hid hf
  have E1:Hid (addE (spans L) c x=1):=if_pos hf
  have E2:Hid (addM (spans L) c x=spans L):=by show _=_;rw[addM,E1.out,if_neg (by decide)]
  clear hf
  go_enter Tryz.func108,Tryz.ntmps108
  go_wp2_with (first|(go_at_call 130;with_reducible refine Still.use CM.out ?_))
  refine CN.out.mono ?_
  rintro e w1 ⟨_,h1,ho1⟩
  rw[h1 HF.out]
  clear h1
  go_wp2_with fail
  go_ret
  exact⟨by rw[E1.out];rfl,by rw[E2.out];exact LTurn.same ⟨⟨A,L,HA.out,rfl,HI.out⟩,HLT.out⟩ ho1⟩
 replace hf:=Decidable.not_not.1 hf
 obtain⟨x1,x2,p1,p2⟩:=Sp.fits_range hf
 have HF:=Lib.hid hf
 clear hf
 obtain⟨ad,cp,rfl⟩:=HA.out.slice
 have hn:=HA.out.len
 obtain⟨N,hN⟩:∃N,N=L.length:=⟨_,rfl⟩
 have HN:=Lib.hid hN
 rw[<-hN] at hn
 have Z3:=Lib.hid (fun W (ho:Only [] w W)=>show W.cell? ⟨P,3,none⟩=some (.slice ad N cp) by rw[hN];exact(HA.out.still ho).blk.cell_ 3 rfl)
 have Z1:=Lib.hid (fun W (ho:Only [] w W)=>(HA.out.still ho).blk.cell_ 1 rfl)
 clear hN
 go_enter Tryz.func108,Tryz.ntmps108
 go_wp2_with (first|(go_at_call 130;with_reducible refine Still.use CM.out ?_))
 refine CN.out.mono ?_
 rintro e w1 ⟨h1,_,ho1⟩
 obtain⟨p,q,cap,rfl,hsp,hp,hq⟩:=h1 HF.out
 have HSP:=Lib.hid hsp
 have y3:=Z3.out w1 ho1
 clear h1 hsp CN z0 z1 z2
 go_wp2_with fail
 go_loopw[31] (fun t wr=>∃k:Nat,k<=N/\t=.int .i64 k/\Only [] w1 wr/\closeTo (spans L) x c.pages k=false) (fun t _=>N-(intOf t).toNat)
 case atStart=>exact⟨0,Nat.zero_le _,rfl,Only.refl _ _,rfl⟩
 case round=>
  obtain⟨k,hk,rfl,ho,hcl⟩:=hrel
  have HCL:=Lib.hid hcl
  have hoW:=ho1.trans ho
  have hr:=HA.out.still hoW
  clear hcl
  by_cases hlt:k<N
  ·have d1:decide ((k:Int)<N)=true:=decide_eq_true (by omega)
   obtain⟨g,cp',e1⟩:=hr.form (by rw[<-HN.out];omega)
   injection e1 with e1 _ e3
   subst e1 e3
   obtain⟨q0,q1,q2,qf⟩:=own_ents hr.row rfl (j:=k) (by rw[<-HN.out];exact hlt)
   have z1:=Z1.out wr hoW
   have hst:0<=(eAt L k).s.start/\(eAt L k).s.start<=1024:=by
    have g:=(hr.get (show k<L.length by rw[<-HN.out];exact hlt)).1.good
    have:=g.b1
    have:=g.b2
    have:=g.p1
    omega
   obtain⟨s1,s2⟩:=hst
   have HS:=Lib.hid (sAt_spans L k)
   by_cases hcls:max (eAt L k).s.start x-min (eAt L k).s.start x<c.pages
   ·have E1:Hid (addE (spans L) c x=9):=by
     show _=_
     rw[addE,if_neg (fun h=>h HF.out),if_pos (closeTo_true (j:=k) (by rw[spans_len,<-HN.out];exact hlt) (by rw[sAt_spans];exact hcls))]
    have E2:Hid (addM (spans L) c x=spans L):=by show _=_;rw[addM,E1.out,if_neg (by decide)]
    have hoB:=hoW.alloc (.cells #[.int .i64 (eAt L k).s.many,.int .i64 (eAt L k).s.start,.pointer (some ⟨(eAt L k).p,0,none⟩)] 257)
    have z1':=Z1.out _ hoB
    have bE:=Blk.new wr 257 #[.int .i64 (eAt L k).s.many,.int .i64 (eAt L k).s.start,.pointer (some ⟨(eAt L k).p,0,none⟩)]
    generalize (eAt L k).s.start=st at *
    generalize (eAt L k).s.many=mn at *
    clear hr qf
    go_wp2_with fail
    generalize wr.alloc (.cells #[.int .i64 mn,.int .i64 st,.pointer (some ⟨(eAt L k).p,0,none⟩)] 257)=w2 at *
    have v1:=bE.cell_ 1 rfl
    have d2:decide (max st x-min st x<c.pages)=true:=decide_eq_true hcls
    go_region
    go_wp2_with fail
    go_ret
    exact⟨by rw[E1.out];rfl,by rw[E2.out];exact LTurn.same ⟨⟨_,L,HA.out,rfl,HI.out⟩,HLT.out⟩ hoB.drew⟩
   ·have HC2:Hid (closeTo (spans L) x c.pages (k+1)=false):=by show _=_;rw[closeTo,HCL.out,sAt_spans,decide_eq_false hcls];rfl
    have hoB:=hoW.alloc (.cells #[.int .i64 (eAt L k).s.many,.int .i64 (eAt L k).s.start,.pointer (some ⟨(eAt L k).p,0,none⟩)] 257)
    have hoC:=ho.alloc (.cells #[.int .i64 (eAt L k).s.many,.int .i64 (eAt L k).s.start,.pointer (some ⟨(eAt L k).p,0,none⟩)] 257)
    have z1':=Z1.out _ hoB
    have bE:=Blk.new wr 257 #[.int .i64 (eAt L k).s.many,.int .i64 (eAt L k).s.start,.pointer (some ⟨(eAt L k).p,0,none⟩)]
    generalize (eAt L k).s.start=st at *
    generalize (eAt L k).s.many=mn at *
    clear hr qf
    go_wp2_with fail
    generalize wr.alloc (.cells #[.int .i64 mn,.int .i64 st,.pointer (some ⟨(eAt L k).p,0,none⟩)] 257)=w2 at *
    have v1:=bE.cell_ 1 rfl
    have d2:decide (max st x-min st x<c.pages)=false:=decide_eq_false (by omega)
    go_region
    go_wp2_with fail
    go_roundw
    case rel=>exact⟨k+1,by omega,by go_num,hoC.drew,HC2.out⟩
    case measure=>simp[intOf];omega
  ·have e:k=N:=by omega
   subst e
   have d1:decide ((k:Int)<k)=false:=decide_eq_false (by omega)
   have E1:Hid (addE (spans L) c x=0):=by
    show _=_
    rw[addE,if_neg (fun h=>h HF.out),if_neg]
    rw[spans_len,<-HN.out,HCL.out]
    decide
   have E2:Hid (addM (spans L) c x=(spans L).take (posTo (spans L) x L.length)++[Sp.fresh x c.size c.pages c.batch]++(spans L).drop (posTo (spans L) x L.length)):=by show _=_;rw[addM,E1.out,if_pos rfl,spans_len]
   have CB:=Lib.hid (bsearch_any hr x ⟨x1,x2⟩)
   have hple:=posTo_le (spans L) x L.length
   obtain⟨S1,S2⟩:=posTo_spec (M:=spans L) (x:=x) L.length (fun i j hij hj=>by
    rw[sAt_spans,sAt_spans]
    have h1:=(hr.apart hij hj).ord
    have h2:=(hr.get (show i<L.length by omega)).1.good.p1
    omega)
   have HS1:=Lib.hid S1
   have HS2:=Lib.hid S2
   obtain⟨pos,hpos⟩:∃pos,pos=posTo (spans L) x L.length:=⟨_,rfl⟩
   rw[<-hpos] at CB hple E2 HS1 HS2
   have HPOS:=Lib.hid hple
   have HO:=Lib.hid hoW
   clear S1 S2 hr hpos
   have HCLS:=Lib.hid (fun j (hj:j<L.length)=>closeTo_false HCL.out j (by rw[HN.out];exact hj))
   rw[<-HN.out] at hple CB
   have y3w:=Z3.out wr hoW
   go_wp2_with fail
   refine CB.out.mono ?_
   rintro e w3 ⟨ho3,f,rfl⟩
   have hoX:=HO.out.trans ho3
   have hA3:=HA.out.still hoX
   have y3:=Z3.out w3 hoX
   have hA3a:=hA3.still ((Only.refl [] w3).alloc (.cells #[.int .i64 0,.int .i64 x,.pointer (some ⟨p,0,none⟩)] 257))
   have CI:=Lib.hid (linsert_any (w3.alloc (.cells #[.int .i64 0,.int .i64 x,.pointer (some ⟨p,0,none⟩)] 257)) 0 _ _ pos _ hA3a.row (entCells_one L) HPOS.out w3.heap.size _ _ _ (Blk.new w3 _ _) (fun e=>by
    have:=own_lt hA3.row w3.heap.size e
    omega) ⟨rfl,rfl,rfl⟩ (by rw[<-HN.out];omega) (Nat.zero_le _))
   rw[<-HN.out] at CI
   have HA3:=Lib.hid hA3a
   clear hA3 hA3a
   go_wp2_with fail
   refine CI.out.mono ?_
   rintro e w4 ⟨v',rfl,hrow,ho4,hob⟩
   rw[HN.out] at hrow ho4 hob
   obtain⟨A',c',rfl,_⟩:=own_slice hrow
   have hAX:=HA3.out
   have nP:P∉(Value.ownBlock (.slice ad L.length cp)).toList:=fun h=>hAX.nA (Option.mem_toList.1 h)
   have bP4:=hAX.blk.only ho4 nP
   have y4:w4.cell? ⟨P,3,none⟩=some (.slice ad k cp):=by rw[HN.out];exact bP4.cell_ 3 rfl
   have yf:=bP4.frozen 3
   have HROW:=Lib.hid hrow
   have HO4:=Lib.hid ho4
   have HOB:=Lib.hid hob
   have HNP:=Lib.hid nP
   have hz3:=hoX.size
   have hz4:=ho4.size
   rw[World.size_alloc] at hz4
   clear hrow ho4 hob nP hAX
   go_wp2_with fail
   go_ret
   have hA:=HA.out
   have hAX:=HA3.out
   have oS:Only [P] w4 (w4.setCell ⟨P,3,none⟩ (.slice A' (L.length+1) c')):=(Only.refl [P] w4).setCell (.inl (by simp)) _
   have hsz5:=oS.size
   have hoT:Only (Value.ownBlock (.slice ad L.length cp)).toList w w4:=(hoX.alloc _).of_nil.trans HO4.out
   have oL:∀b,b∈(Value.ownBlock (.slice ad L.length cp)).toList->b<w.heap.size:=fun b hb=>own_lt hA.row b (Option.mem_toList.1 hb)
   have hvP:(Value.ownBlock (.slice A' (L.length+1) c'))≠some P:=by
    rcases HOB.out with h|h
    ·rw[h];exact hA.nA
    ·rw[h];intro e;injection e with e;have:=hA.blk.lt;rw[World.size_alloc] at e;omega
   have hPlt:=hA.blk.lt
   have hspE:SpanAt w4 p q cap (Sp.fresh x c.size c.pages c.batch):=((HSP.out.only (ho.trans ho3) (by simp) (by simp)).alloc _).only HO4.out (fun hb=>by have:=oL p hb;omega) (fun hb=>by have:=oL q hb;omega)
   have hspE5:SpanAt (w4.setCell ⟨P,3,none⟩ (.slice A' (L.length+1) c')) p q cap (Sp.fresh x c.size c.pages c.batch):=hspE.only oS (by simp;omega) (by simp;omega)
   have hspL:∀y∈L,SpanAt (w4.setCell ⟨P,3,none⟩ (.slice A' (L.length+1) c')) y.p y.q y.cap y.s:=fun y hy=>by
    have hn:=hA.ne y hy
    exact((hA.sp y hy).1.only hoT (fun h=>hn.2.2.1 (Option.mem_toList.1 h)) (fun h=>hn.2.2.2 (Option.mem_toList.1 h))).only oS (by simpa using hn.1) (by simpa using hn.2.1)
   have hrow5:=own_only HROW.out oS (fun k hk hb=>by
    simp at hb
    subst hb
    exact hvP hk)
   have hyp:∀y∈L,y.p<w.heap.size/\y.q<w.heap.size:=fun y hy=>⟨(hA.sp y hy).1.ltp,(hA.sp y hy).1.ltq⟩
   have hobE:∀b,(Value.ownBlock (.slice A' (L.length+1) c'))=some b->(Value.ownBlock (.slice ad L.length cp)=some b)\/w3.heap.size<b:=fun b hb=>by
    rcases HOB.out with h|h
    ·rw[h] at hb;exact .inl hb
    ·rw[h] at hb;injection hb with hb;rw[World.size_alloc] at hb;exact .inr (by omega)
   have hz1:p<w3.heap.size/\q<w3.heap.size:=by
    have a1:=HSP.out.ltp
    have a2:=HSP.out.ltq
    have a3:=(ho.trans ho3).size
    omega
   have hnE:p≠P/\q≠P/\(Value.ownBlock (.slice A' (L.length+1) c'))≠some p/\(Value.ownBlock (.slice A' (L.length+1) c'))≠some q:=⟨by omega,by omega,fun e=>(by
    rcases hobE p e with h|h
    ·have:=own_lt hA.row p h;omega
    ·omega),fun e=>(by
    rcases hobE q e with h|h
    ·have:=own_lt hA.row q h;omega
    ·omega)⟩
   have hst:=hA.insert (w':=w4.setCell ⟨P,3,none⟩ (.slice A' (L.length+1) c')) (A':=(.slice A' (L.length+1) c')) (e:=⟨p,q,cap,Sp.fresh x c.size c.pages c.batch⟩) (k:=pos) HPOS.out (bP4.set_ 3 (.slice A' (L.length+1) c')) hrow5 hspL ⟨hspE5,rfl,rfl,rfl⟩
    (fun y hy=>⟨fun e=>(by
     rcases hobE _ e with h|h
     ·exact(hA.ne y hy).2.2.1 h
     ·have:=hyp y hy;omega),fun e=>(by
     rcases hobE _ e with h|h
     ·exact(hA.ne y hy).2.2.2 h
     ·have:=hyp y hy;omega)⟩)
    hnE
    hvP (fun y hy=>by have:=hyp y hy;show y.p≠p/\y.p≠q/\y.q≠p/\y.q≠q;omega)
    (fun j hj=>by
     have a1:=HS1.out j hj
     have a2:=HCLS.out j (by have:=HPOS.out;omega)
     rw[sAt_spans] at a1 a2
     show _<=x
     omega)
    (fun j hj hjl=>by
     have a1:=HS2.out j hj hjl
     have a2:=HCLS.out j hjl
     rw[sAt_spans] at a1 a2
     show x+_<=_
     omega)
   have hoF:Only bl w (w4.setCell ⟨P,3,none⟩ (.slice A' (L.length+1) c')):=(hoT.mono (fun b hb=>HI.out.a b (Option.mem_toList.1 hb))).setCell (.inl HI.out.p) _
   refine⟨by rw[E1.out];rfl,hoF,p::q::((Value.ownBlock (.slice A' (L.length+1) c')).toList++bl),⟨⟨(.slice A' (L.length+1) c'),_,hst,?_,?_⟩,?_⟩,?_⟩
   ·rw[E2.out]
    simp[spans,List.map_take,List.map_drop]
   ·refine⟨by simp[HI.out.p],fun b hb=>by simp[hb],fun y hy=>?_⟩
    simp only[List.mem_append,List.mem_singleton] at hy
    rcases hy with (hy|rfl)|hy
    ·have:=HI.out.e y (List.mem_of_mem_take hy);simp[this.1,this.2]
    ·simp
    ·have:=HI.out.e y (List.mem_of_mem_drop hy);simp[this.1,this.2]
   ·intro b hb
    simp only[List.mem_cons,List.mem_append,Option.mem_toList] at hb
    rcases hb with rfl|rfl|hb|hb
    ·exact hspE5.ltp
    ·exact hspE5.ltq
    ·exact own_lt hrow5 b hb
    ·exact Nat.lt_of_lt_of_le (HLT.out b hb) hoF.size
   ·intro b hb
    simp only[List.mem_cons,List.mem_append,Option.mem_toList] at hb
    rcases hb with rfl|rfl|hb|hb
    ·exact .inr hp
    ·exact .inr hq
    ·rcases hobE b hb with h|h
     ·exact .inl (HI.out.a b h)
     ·exact .inr (by omega)
    ·exact .inl hb
structure OutAt (w0 w:World) (l:List Nat) (o:Nat) (rs:List (Int×Int)):Prop where
 only:Only l w0 w
 ge:w0.heap.size<=o
 lt:o<w.heap.size
 no:o∉l
 ex:∃v,Blk w o 265 #[v]/\w.ownsRow w0.heap.size 243 2 v rs.length (cellsR rs)/\v.ownBlock≠some o
set_option maxRecDepth 100000 in
set_option maxHeartbeats 4000000 in
theorem struck_any {w0 w:World} {l:List Nat} {o:Nat} {rs:List (Int×Int)} (h:OutAt w0 w l o rs) (hl:∀b∈l,b<w0.heap.size) {p q cap:Nat} {s:Sp} (hs:SpanAt w p q cap s) (hpo:p≠o) (hrs:rs.length<=1024):
 Calls Tryz.prog 208 #[.agg #[.int .i64 s.many,.int .i64 s.start,.pointer (some ⟨p,0,none⟩)],.pointer (some ⟨o,0,none⟩)] w fun e w'=>e=.returned (.bool (s.many==0))/\OutAt w0 w' l o (if s.many=0 then rs++[(s.start,s.pages)] else rs)/\∀v,Blk w o 265 #[v]->Only (o::v.ownBlock.toList) w w':=by
 obtain⟨ho,hge,hlt,hno,v,hB,hown,hvo⟩:=h
 have huniq:∀u,Blk w o 265 #[u]->u=v:=fun u hu=>by
  have:=(hu.cell_ 0 rfl).symm.trans (hB.cell_ 0 rfl)
  injection this
 have hoA:=ho.alloc (.cells #[.int .i64 s.many,.int .i64 s.start,.pointer (some ⟨p,0,none⟩)] 257)
 have bE:=Blk.new w 257 #[.int .i64 s.many,.int .i64 s.start,.pointer (some ⟨p,0,none⟩)]
 have oA:=(Only.refl [] w).alloc (.cells #[.int .i64 s.many,.int .i64 s.start,.pointer (some ⟨p,0,none⟩)] 257)
 have hB1:=hB.only oA (by simp)
 have hown1:=own_only hown oA (by simp)
 have hs1:=hs.only oA (by simp) (by simp)
 by_cases h0:s.many=0
 ·have d0:(s.many==0)=true:=by simp[h0]
  have H0:=Lib.hid h0
  rw[if_pos h0]
  obtain⟨i0,hi,hz0,hz1,hz2⟩:=info_parts info_run
  have hsz:=hoA.size
  have hszA:(w.alloc (.cells #[.int .i64 s.many,.int .i64 s.start,.pointer (some ⟨p,0,none⟩)] 257)).heap.size=w.heap.size+1:=by simp
  clear h0
  go_enter Tryz.func208,Tryz.ntmps208
  go_wp2_with fail
  generalize (w.alloc (.cells #[.int .i64 s.many,.int .i64 s.start,.pointer (some ⟨p,0,none⟩)] 257))=w1 at *
  have CR:=Lib.hid (Run_at hs1.drew)
  have c2:=bE.cell_ 2 rfl
  have y0:=hB1.cell_ 0 rfl
  have HB1:=Lib.hid hB1
  have HBE:=Lib.hid bE
  have HOWN:=Lib.hid hown1
  have HVO:=Lib.hid hvo
  have HOLT:=Lib.hid (own_lt hown)
  have hwo:¬(w.heap.size=o):=by omega
  have HOV:=Lib.hid (own_base hown)
  clear hs hs1
  go_region_law (first
   |(go_simp;go_at_call 209;refine CR.out.mono ?_;rintro e w2 ⟨rfl,ho2⟩;have y2:=(HB1.out.drew.only ho2 (by simp)).cell_ 0 rfl;have e2:=(HBE.out.drew.only ho2 (by simp)).cell_ 2 rfl;have y2a:=((HB1.out.drew.only ho2 (by simp)).alloc (.cells #[.int .i64 s.start,.int .i64 s.pages] 243)).cell_ 0 rfl;have hown2:=own_only (own_drewN HOWN.out 1) ho2 (by simp);have hsz2:=ho2.size)
   |(refine step_append_lies _ rfl (.tmp 8) (.tmp 12) 265 rfl w0.heap.size 243 i0 (.agg #[.int .i64 0,.int .i64 0]) 2 16 Tryz.underlying265 hi hz0 hz1 hz2 rfl (by decide) _ _ _ rfl (hown2.alloc _) ⟨w2.heap.size,0,none⟩ 1 1 [.int .i64 s.start,.int .i64 s.pages] rfl rfl (news_new w2 _ _) (by simp[Value.oneCell']) (by omega) (by unfold maxLen;omega) (by omega) (by simp;simp at hsz2;omega) _ rfl ?_;intro g1 k1 w3 hown3 hg3 hgl3 hgt3;have o3:Only v.ownBlock.toList (w2.alloc (.cells #[.int .i64 s.start,.int .i64 s.pages] 243)) w3:=(Only.refl _ _).grown hg3 (fun b hb=>.inl (Option.mem_toList.2 (show v.ownBlock=some b from hb)));have B3:=((HB1.out.drew.only ho2 (by simp)).alloc (.cells #[.int .i64 s.start,.int .i64 s.pages] 243)).only o3 (fun h=>HVO.out (Option.mem_toList.1 h));have E3:=((HBE.out.drew.only ho2 (by simp)).alloc (.cells #[.int .i64 s.start,.int .i64 s.pages] 243)).only o3 (fun h=>Nat.lt_irrefl _ (HOLT.out _ (Option.mem_toList.1 h)));have e3:=E3.cell_ 0 rfl;have y3:=B3.cell_ 0 rfl;have f3:=B3.frozen 0))
  all_goals
   go_wp2
   go_ret
   have hgO:g1≠o:=by
    rcases hgl3 with h|h
    ·intro e
     subst e
     exact HVO.out h
    ·simp at h hsz2
     omega
   have hgN:Only l w0 w3:=(((hoA.drew.trans ho2.of_nil).alloc _).then_ o3 (fun b hb=>.inr (HOV.out b (Option.mem_toList.1 hb))))
   have hsz3:=o3.size
   refine⟨by rw[H0.out];rfl,⟨hgN.setCell (.inr hge) _,hge,by simp at hsz3 hsz2 ⊢;omega,hno,_,B3.set_ 0 _,?_,fun e=>hgO (by injection e)⟩,fun u hu=>?_⟩
   ·rw[cellsR_append,List.length_append]
    simp only[List.length_singleton]
    exact own_only hown3 ((Only.refl [o] w3).setCell (.inl (by simp)) _) (fun b hb hbo=>hgO (by
     simp at hbo
     subst hbo
     injection hb))
   ·obtain rfl:=huniq u hu
    exact(((oA.drew.trans ho2).alloc _).of_nil.trans (o3.mono (fun b hb=>mcm _ hb))).setCell (.inl (by simp)) _
 ·have d0:(s.many==0)=false:=by simp[h0]
  have H0:=Lib.hid h0
  rw[if_neg h0]
  clear h0 hs hs1
  generalize s.many=mn at *
  go_enter Tryz.func208,Tryz.ntmps208
  go_wp2_with fail
  go_ret
  exact⟨by rw[d0];rfl,⟨hoA,hge,by simp;omega,hno,v,hB1,hown1,hvo⟩,fun u hu=>oA.of_nil⟩
def zeroTo (M:List Sp):Nat->List (Int×Int)
 |0=>[]
 |k+1=>if(sAt M k).many=0 then zeroTo M k++[((sAt M k).start,(sAt M k).pages)] else zeroTo M k
def keptE (L:List En):Nat->List En
 |0=>[]
 |k+1=>if(eAt L k).s.many=0 then keptE L k else keptE L k++[eAt L k]
theorem zeroTo_len (M:List Sp) (k:Nat):(zeroTo M k).length<=k:=by
 induction k with
 |zero=>exact Nat.le_refl _
 |succ k ih=>
  rw[zeroTo]
  split
  ·rw[List.length_append];simp;omega
  ·omega
theorem keptE_len (L:List En) (k:Nat):(keptE L k).length<=k:=by
 induction k with
 |zero=>exact Nat.le_refl _
 |succ k ih=>
  rw[keptE]
  split
  ·omega
  ·rw[List.length_append];simp;omega
theorem zeroTo_nil {M:List Sp} (k:Nat) (h:∀j,j<k->(sAt M j).many≠0):zeroTo M k=[]:=by
 induction k with
 |zero=>rfl
 |succ k ih=>rw[zeroTo,if_neg (h k (by omega))];exact ih (fun j hj=>h j (by omega))
theorem keptE_all {L:List En} (k:Nat) (hk:k<=L.length) (h:∀j,j<k->(eAt L j).s.many≠0):keptE L k=L.take k:=by
 induction k with
 |zero=>rfl
 |succ k ih=>
  rw[keptE,if_neg (h k (by omega)),ih (by omega) (fun j hj=>h j (by omega)),List.take_succ_eq_append_getElem (by omega)]
  rw[eAt,List.getD_eq_getElem?_getD,List.getElem?_eq_getElem (by omega)]
  rfl
theorem keptE_filter (L:List En) (k:Nat) (hk:k<=L.length):keptE L k=(L.take k).filter (fun e=>e.s.many != 0):=by
 induction k with
 |zero=>rfl
 |succ k ih=>
  have e:L[k]'(by omega)=eAt L k:=by rw[eAt,List.getD_eq_getElem?_getD,List.getElem?_eq_getElem (by omega)];rfl
  rw[keptE,List.take_succ_eq_append_getElem (by omega),List.filter_append,<-ih (by omega),e]
  by_cases h:(eAt L k).s.many=0
  ·rw[if_pos h];simp[h]
  ·rw[if_neg h];simp[h]
theorem OutAt.mono {w0 w:World} {l l':List Nat} {o:Nat} {rs:List (Int×Int)} (h:OutAt w0 w l o rs) (hl:∀b∈l,b∈l') (ho:o∉l'):OutAt w0 w l' o rs:=⟨h.only.mono hl,h.ge,h.lt,ho,h.ex⟩
theorem OutAt.alloc {w0 w:World} {l:List Nat} {o:Nat} {rs:List (Int×Int)} (h:OutAt w0 w l o rs) (ob:Obj):OutAt w0 (w.alloc ob) l o rs:=by
 obtain⟨v,h1,h2,h3⟩:=h.ex
 exact⟨h.only.alloc ob,h.ge,by rw[World.size_alloc];have:=h.lt;omega,h.no,v,h1.alloc ob,own_only h2 ((Only.refl [] w).alloc ob) (by simp),h3⟩
set_option maxRecDepth 100000 in
set_option maxHeartbeats 4000000 in
theorem lindex_any {w0 w:World} {o P:Nat} {A:Value} {c:Cl} {L:List En} (h:ListAt w0 P A c L) (hO:OutAt w0 w [] o []):
 Calls Tryz.prog 223 #[A,.func (.func 208) #[] #[.pointer (some ⟨o,0,none⟩)]] w fun e w'=>
  (e=.returned (.int .i64 (-1))/\(∀j,j<L.length->(eAt L j).s.many≠0)/\OutAt w0 w' [] o [])\/
  (∃k,k<L.length/\e=.returned (.int .i64 (k:Nat))/\(eAt L k).s.many=0/\(∀j,j<k->(eAt L j).s.many≠0)/\OutAt w0 w' [] o (zeroTo (spans L) (k+1))):=by
 obtain⟨ad,cp,rfl⟩:=h.slice
 have HA:=Lib.hid h
 have hn:=h.len
 obtain⟨N,hN⟩:∃N,N=L.length:=⟨_,rfl⟩
 rw[<-hN] at hn ⊢
 have HN:=Lib.hid hN
 have HO:=Lib.hid hO
 clear h hN hO
 go_enter Tryz.func223,Tryz.ntmps223
 go_wp2_with fail
 go_loopw[8] (fun t wr=>∃k:Nat,k<=N/\t=.int .i64 k/\OutAt w0 wr [] o []/\(∀j,j<k->(eAt L j).s.many≠0)) (fun t _=>N-(intOf t).toNat)
 case atStart=>exact⟨0,Nat.zero_le _,rfl,HO.out,fun j hj=>absurd hj (by omega)⟩
 case round=>
  obtain⟨k,hk,rfl,hO,hF⟩:=hrel
  have hr:=HA.out.still hO.only
  by_cases hlt:k<N
  ·have d1:decide ((k:Int)<N)=true:=decide_eq_true (by omega)
   obtain⟨g,cp',e1⟩:=hr.form (by rw[<-HN.out];omega)
   injection e1 with e1 _ e3
   subst e1 e3
   obtain⟨q0,q1,q2,qf⟩:=own_ents hr.row rfl (j:=k) (by rw[<-HN.out];exact hlt)
   have hsp:=(hr.get (show k<L.length by rw[<-HN.out];exact hlt)).1
   have hp0:=(HA.out.get (show k<L.length by rw[<-HN.out];exact hlt)).1.ltp
   have CS:=Lib.hid (struck_any hO (by simp) hsp (by have:=hO.ge;omega) (by simp))
   have HF:=Lib.hid hF
   have HS:=Lib.hid (sAt_spans L k)
   clear hr hF hsp hO
   by_cases h0:(eAt L k).s.many=0
   ·have d2:((eAt L k).s.many==0)=true:=by simp[h0]
    have HZ:Hid (zeroTo (spans L) (k+1)=[]++[((eAt L k).s.start,(eAt L k).s.pages)]):=by
     show _=_
     rw[zeroTo,HS.out,if_pos h0,zeroTo_nil k (fun j hj=>by rw[sAt_spans];exact HF.out j hj)]
    have H0:=Lib.hid h0
    rw[if_pos h0,d2] at CS
    clear h0 d2
    go_wp2_with (go_at_call 208;refine CS.out.mono ?_;rintro e w2 ⟨rfl,hO2,_⟩)
    go_ret
    exact .inr ⟨k,hlt,rfl,H0.out,HF.out,by rw[HZ.out];exact hO2⟩
   ·have d2:((eAt L k).s.many==0)=false:=by simp[h0]
    have H0:=Lib.hid h0
    rw[if_neg h0,d2] at CS
    clear h0 d2
    go_wp2_with (go_at_call 208;refine CS.out.mono ?_;rintro e w2 ⟨rfl,hO2,_⟩)
    go_roundw
    case rel=>exact⟨k+1,by omega,by go_num,hO2,fun j hj=>(by
     rcases Nat.lt_or_ge j k with h1|h1
     ·exact HF.out j h1
     ·rw[show j=k by omega];exact H0.out)⟩
    case measure=>simp[intOf];omega
  ·have e:k=N:=by omega
   subst e
   have d1:decide ((k:Int)<k)=false:=decide_eq_false (by omega)
   have HF:=Lib.hid hF
   clear hr hF
   go_wp2_with fail
   go_ret
   exact .inl ⟨rfl,HF.out,hO⟩
end Go.Proofs.YtcidjimefnhacaaGreatDoor
