/- TopSchedules, a part of the proof: GK, GB, GC, GD, GE. -/
import Derived.Test.YtcidjimefnhacaaGreatDoorM28
set_option linter.unusedVariables false
set_option linter.unusedSimpArgs false
namespace Go.Proofs.YtcidjimefnhacaaGreatDoor
open Go.RowKit
theorem BackD.hH {P:Hp} {S:HS} {own k:Nat} {o:List Int} {S':HS} (h:BackD P S own k o S'):S'.H=S.H:=by
 rcases h with ⟨b',rfl⟩|⟨pl,B',L',_,_,rfl⟩<;>rfl
set_option maxRecDepth 100000 in
set_option maxHeartbeats 8000000 in
theorem hsBack_at {P:Hp} {S:HS} {w:World} {FP:List Nat} (h:HSys P S w FP) {t:Nat} (ht:t<P.nt) {b:HB} {L:List HB} (hH:S.H t=b::L) (hex:∀x∈b.o,(0<=x/\x<65536)/\∃a,a<P.na/\Ownd S a (x/256)) (hTO:∀a,a<P.na->∀l,(∀x,l.count x<=b.o.count x)->TOk S a b.k l):
 Calls Tryz.prog 77 #[.pointer (some ⟨P.h,0,none⟩),.int .i64 t,Ph.back.val] w fun e w'=>∃v S',BackD P (S.hnd t v L) (t%P.na) b.k b.o S'/\Turns (HSys P S') w FP w'/\e=.returned (.tuple #[if L=[] then Ph.none.val else Ph.back.val,.agg #[.int .i64 0,.int .i64 0]]):=by
 have c0:=(Ctx.start h).push NoL.framed #[.int .i64 0,.int .i64 0] 66
 have HC0:=Lib.hid c0
 have HT:=Lib.hid ht
 obtain⟨FP0,hs0⟩:=c0.sys_
 have z8:=hs0.hcells.c8
 obtain⟨n1,n2,n3,n4,n5,n6,n7,n8,n9⟩:=h.nums
 have HB3:=Lib.hid h.big
 have CK:=Lib.hid (fun (W:World) (S2:HS) (bx:List (Nat×TypeId×Array Value)) (hc:Ctx P S2 w FP (OSt b.v b.o) bx W)=>hc.sys_.elim (fun FPd hs=>hown_at hs ht))
 have hbok:b.ok P.T.length:=by
  obtain⟨f,hf,_⟩:=h.turn (.han t)
  exact(hf.1 ht).ok b (by rw[hH];simp)
 have HBV:Hid (∃A n c,b.v=.slice A n c):=by
  obtain⟨f,hf,_⟩:=h.turn (.han t)
  have h8:=hf.1 ht
  rw[hH] at h8
  obtain⟨b0,_,q,_⟩:=h8.uncons2
  obtain⟨A,c,e,_⟩:=q.1.form
  exact⟨A,_,c,e⟩
 have CB:=Lib.hid (fun (W:World) (v:Value) (bx:List (Nat×TypeId×Array Value)) (hc:Ctx P (S.hnd t v L) w FP (OSt b.v b.o) bx W)=>hback_at hc (own:=t%P.na) (Nat.mod_lt t (show 0<P.na by omega)) hbok.k ⟨hbok.l0,hbok.l1⟩ hex (fun a ha l hl=>⟨(hTO a ha l hl).len,(hTO a ha l hl).ok,(hTO a ha l hl).ap,(hTO a ha l hl).fr⟩))
 have CR:=Lib.hid (fun (W:World) (S2:HS) (bx:List (Nat×TypeId×Array Value)) (hc:Ctx P S2 w FP NoL bx W)=>hc.sys_.elim (fun FPd hs=>hret_at hs ht))
 have CW:=Lib.hid (fun (W:World) (hc:Ctx P S w FP NoL [(w.heap.size,66,#[.int .i64 0,.int .i64 0])] W)=>hc.sys_.elim (fun FPd hs=>hown_at hs ht))
 have hown:t%P.na<P.na:=Nat.mod_lt _ (by omega)
 clear h c0 hs0
 clear hex hTO
 generalize hnt:P.nt=nt at *
 have HNT:=Lib.hid hnt
 generalize hna:P.na=na at *
 have HNA:=Lib.hid hna
 generalize hq:t%na=q at *
 clear hnt hna hq
 have hta0:=fun W=>ta_no (T:=191) (T':=217) Tryz.underlying191 rfl (by decide) z_take (.agg #[]) W
 have hta1:=fun W=>ta_no (T:=194) (T':=217) Tryz.underlying194 rfl (by decide) z_transfer (.agg #[]) W
 have hta2:=fun W=>ta_no (T:=200) (T':=217) Tryz.underlying200 rfl (by decide) z_central (.agg #[]) W
 have hta3:=fun W=>ta_no (T:=202) (T':=217) Tryz.underlying202 rfl (by decide) z_grow (.agg #[]) W
 have hta4:=fun W=>ta_no (T:=199) (T':=217) Tryz.underlying199 rfl (by decide) z_fill (.agg #[]) W
 have hta5:=fun W=>ta_no (T:=208) (T':=217) Tryz.underlying208 rfl (by decide) z_large (.agg #[]) W
 have hta6:=fun W=>ta_no (T:=211) (T':=217) Tryz.underlying211 rfl (by decide) z_find (.agg #[]) W
 have hta7:=fun W=>ta_no (T:=214) (T':=217) Tryz.underlying214 rfl (by decide) z_put (.agg #[]) W
 have hta:=fun W=>ta_yes Tryz.underlying217 rfl (.agg #[]) W
 unfold Ph.val
 go_enter Tryz.func77,Tryz.ntmps77
 go_wp2_with fail
 have hbd:=HC0.out.still NoL.framed ((Only.refl [] _).drew)
 go_region_held3 (fun U=>U.cell? ⟨P.h,7,none⟩=some (.slice (some ⟨P.gA,0,none⟩) na P.cA)/\U.cell? ⟨P.gA,q,none⟩=some (.pointer (some ⟨P.ar q,0,none⟩)))
  (exact stCells HNA.out hown (by assumption))
  (first
   |(go_at_call 81;with_reducible refine Still.use (CW.out _ hbd) ?_))
 generalize (w.alloc (.cells #[.int .i64 0,.int .i64 0] 66)).drew=W1 at *
 clear CW HC0 z8
 have HB1:Hid (¬W1.heap.size=w.heap.size):=Nat.ne_of_gt (hbd.box (x:=(w.heap.size,66,#[.int .i64 0,.int .i64 0])) (by simp)).lt
 replace hbd:=hbd.push NoL.framed #[] 217
 generalize hb1:W1.heap.size=b1 at *
 obtain⟨Av,nv,cv,ev⟩:=HBV.out
 have hbd2:=hbd.push NoL.framed #[.int .i64 (b.k:Nat),.slice Av nv cv] 205
 obtain⟨p0,p1,p2⟩:=thCells (t:=t) (by rw[HNT.out];exact HT.out) hbd
 obtain⟨f,hf,⟨gTf,hhf⟩,gTlt,hgo⟩:=hbd2.handsG (OSt.framed b.v b.o) (by rw[HNT.out];exact HT.out)
 have HFL:=Lib.hid hf.lt
 rw[hH] at hf
 obtain⟨b0,q1,q2,g,off,c,q3,q4,_,_,q7,q8,⟨At,q9⟩,q10⟩:=hf.uncons2
 rw[q3] at p1
 obtain⟨_,p3,p4⟩:=thCells (t:=t) (by rw[HNT.out];exact HT.out) hbd2
 rw[q3] at p3
 obtain⟨f1,hf1,_⟩:=hbd.handsG (Sn:=OSt b.v b.o) (OSt.framed b.v b.o) (by rw[HNT.out];exact HT.out)
 rw[hH] at hf1
 obtain⟨_,_,_,g1,off1,c1,q3',_,q5,q6,_⟩:=hf1.uncons2
 rw[q3] at q3'
 injection q3' with e1 _ e3
 injection e1 with e1
 injection e1 with e1 e2 _
 subst e1 e2 e3
 rw[ev] at q6
 have q9':=q9
 rw[q9] at q10
 have HQ9:=Lib.hid q9'
 have HBC:=Lib.hid (bclone_at q10)
 have HBD2:=Lib.hid hbd2
 have HGO:=Lib.hid hgo
 have HQ1:=Lib.hid (And.intro q1 q2)
 have HEV:=Lib.hid ev
 obtain⟨i0,hi,hz0,hz1,hz2⟩:=info_parts info_bt
 have HN0:Hid (L=[]↔L.length=0):=List.length_eq_zero_iff.symm
 generalize hlen:L.length=ln at *
 have HLEN:=Lib.hid hlen
 clear hlen hbd hbd2 hgo q1 q2 q3 q7 q9 q9' q10 hf hf1 ev gTlt gTf hhf hbok
 go_wp2_with (refine wpList_slice_from2 rfl 114 _ _ rfl 205 elem_bts Tryz.underlying114 i0 hi hz1 (some ⟨g,off,none⟩) (ln+1) c 1 rfl rfl (by omega) ?_;intro vs hvs;rw[HQ9.out] at hvs;subst hvs)
 refine HBC.out.mono ?_
 rintro e wc ⟨v',rfl,⟨A',c',rfl⟩,hoC,f',hf',hsub⟩
 have hbc:=HBD2.out.still NoL.framed hoC
 obtain⟨_,_,r2⟩:=thCells (t:=t) (by rw[HNT.out];exact HT.out) hbc
 have HC2:=Lib.hid (HGO.out (.slice A' ln c') L wc f' [b0] hoC.of_nil hf' (fun b' hb'=>(hsub b' hb').elim (fun h=>.inl (List.mem_filter.1 h).1) (fun h=>.inr ⟨h,fun x hx e=>by have:=(HBD2.out.box hx).lt;omega⟩)) ((OSt.framed _ _).still HQ1.out.2 hoC) (fun b' hb'=>by
  obtain rfl:=List.mem_singleton.1 hb'
  exact⟨HQ1.out.1,fun h=>(hsub b' h).elim (fun h=>of_decide_eq_true (List.mem_filter.1 h).2 rfl) (fun h=>by have:=HFL.out b' HQ1.out.1;omega)⟩))
 clear hbc hsub hf' hoC HBC HGO HQ1 HBD2 HFL p0 p1 p2 p3 p4 q5 q6
 go_wp2_with fail
 have hbd:=HC2.out
 rw[show(W1.alloc (.cells #[] 217)).heap.size=b1+1 by simp[hb1]] at hbd
 clear HC2
 generalize wc.setCell ⟨P.gT,t*3+1,none⟩ (.slice A' ln c')=W3 at *
 replace hbd:=hbd.still (OSt.framed _ _) ((Only.refl [] W3).drew)
 go_region_held3 (fun U=>U.cell? ⟨b1+1,0,none⟩=some (.int .i64 (b.k:Nat))/\U.cell? ⟨b1+1,1,none⟩=some (.slice Av nv cv))
  (exact⟨(bxCell hbd (mcs ..) 0 rfl).1,(bxCell hbd (mcs ..) 1 rfl).1⟩)
  (first
   |(go_at_call 81;with_reducible refine Still.use (CK.out _ _ _ hbd) ?_)
   |(go_at_call 97;with_reducible refine Calls.mono (HEV.out▸CB.out _ _ _ hbd) ?_;rintro _ wN ⟨rfl,S',hBD,hbN⟩;clear hbd;have hbd:=hbN;clear hbN))
 replace hbd:Ctx P S' w FP NoL [(b1+1,205,#[.int .i64 (b.k:Nat),.slice Av nv cv]),(b1,217,#[]),(w.heap.size,66,#[.int .i64 0,.int .i64 0])] wN:=hbd
 obtain⟨r0,f0⟩:=bxCell hbd (mcm _ (mcm _ (mcs ..))) 0 rfl
 obtain⟨r1,f1⟩:=bxCell hbd (mcm _ (mcm _ (mcs ..))) 1 rfl
 have HBR:=Lib.hid (hbd.res (b:=w.heap.size) (mcm _ (mcm _ (mcs ..))) (Nat.le_refl _) HB3.out [] (fun x hx=>by cases hx) 0 0)
 have HR2:=Lib.hid (CR.out _ _ _ hbd)
 rw[show S'.H t=L from(congrFun hBD.hH t).trans upd_at] at HR2
 have HFS:=Lib.hid hBD
 clear hbd hBD CR CK CB HQ9 HEV
 by_cases hz:L=[]
 ·rw[if_pos hz] at HR2
  have HZ:=Lib.hid hz
  clear hz
  unfold Ph.val at HR2
  go_wp2_with (first|(go_at_call 95;with_reducible refine Still.use HR2.out ?_))
  refine bodyPost_ret (results_pr rfl rfl (bxCell HBR.out (mcs ..) 0 rfl).1 (bxCell HBR.out (mcs ..) 1 rfl).1) rfl ?_
  rw[HZ.out] at HFS
  first
   |exact⟨.slice A' ln c',S',HFS.out,HBR.out.turns,rfl⟩
   |(refine⟨.slice A' ln c',S',by rw[HZ.out];exact HFS.out,HBR.out.turns,?_⟩
     rw[if_pos HZ.out];rfl)
 ·rw[if_neg hz] at HR2
  have HZ:=Lib.hid hz
  clear hz
  unfold Ph.val at HR2
  go_wp2_with (first|(go_at_call 95;with_reducible refine Still.use HR2.out ?_))
  refine bodyPost_ret (results_pr rfl rfl (bxCell HBR.out (mcs ..) 0 rfl).1 (bxCell HBR.out (mcs ..) 1 rfl).1) rfl ?_
  first
   |exact⟨.slice A' ln c',S',HFS.out,HBR.out.turns,rfl⟩
   |(refine⟨.slice A' ln c',S',HFS.out,HBR.out.turns,?_⟩
     rw[if_neg HZ.out];rfl)
set_option maxRecDepth 100000 in
set_option maxHeartbeats 8000000 in
theorem hsTake_at {P:Hp} {S:HS} {w:World} {FP:List Nat} (h:HSys P S w FP) {t k:Nat} (ht:t<P.nt) (hk:k<P.T.length) (hok:∀a,0<ctok (S.C t) k a->(0<=a/\a<65536)/\∃ar,ar<P.na/\Ownd S ar (a/256)):
 Calls Tryz.prog 77 #[.pointer (some ⟨P.h,0,none⟩),.int .i64 t,(Ph.take k).val] w fun e w'=>
  (∃(C':Int->Option CE) (a:Int) (ar:Nat),(∀j y,ctok C' j y+one1 k a j y=ctok (S.C t) j y)/\e=.returned (.tuple #[.nilIface,.agg #[.int .i64 a,.int .i64 0]])/\ar<P.na/\Turns (HSys P {S.cac t C' with lv:=lvPut S.lv a ⟨(Z.cAt P.T k).s,k,ar⟩}) w FP w')\/
  (∃(C':Int->Option CE) (n:Nat),(∀j y,ctok C' j y=ctok (S.C t) j y)/\1<=n/\n<=32/\e=.returned (.tuple #[(Ph.transfer k n).val,.agg #[.int .i64 0,.int .i64 0]])/\Turns (HSys P (S.cac t C')) w FP w'):=by
 have c0:=(Ctx.start h).push NoL.framed #[.int .i64 0,.int .i64 0] 66
 have HC0:=Lib.hid c0
 have HT:=Lib.hid ht
 have HK:=Lib.hid hk
 have HOK:=Lib.hid hok
 obtain⟨FP0,hs0⟩:=c0.sys_
 have z8:=hs0.hcells.c8
 obtain⟨n1,n2,n3,n4,n5,n6,n7,n8,n9⟩:=h.nums
 have HB3:=Lib.hid h.big
 have CT:=Lib.hid (fun (W:World) (b:Nat) (hc:Ctx P S w FP NoL [(b,191,#[.int .i64 k]),(w.heap.size,66,#[.int .i64 0,.int .i64 0])] W)=>hc.call NoL.framed (fun FPc hs=>hcTake_at hs ht hk))
 have CB:=Lib.hid (fun (W:World) (bx:List (Nat×TypeId×Array Value)) (C':Int->Option CE) (a:Int) (h0:0<ctok (S.C t) k a) (hc:Ctx P (S.cac t C') w FP NoL bx W)=>hc.call (α:=Nat) (R:=fun ar e=>e=.returned (.tuple #[.nilIface,.agg #[.int .i64 a,.int .i64 0]])/\ar<P.na) (S':=fun ar=>{S.cac t C' with lv:=lvPut S.lv a ⟨(Z.cAt P.T k).s,k,ar⟩}) NoL.framed (fun FPc hs=>(hborn_at hs a (Z.cAt P.T k).s k (hok a h0).1 (hok a h0).2).mono (fun e w' ⟨ar,h1,h2,h3⟩=>⟨ar,⟨h1,h2⟩,h3⟩)))
 have CN:=Lib.hid (fun (W:World) (bx:List (Nat×TypeId×Array Value)) (C':Int->Option CE) (hc:Ctx P (S.cac t C') w FP NoL bx W)=>hc.call NoL.framed (fun FPc hs=>hcWant_at hs ht hk))
 have CW:=Lib.hid (fun (W:World) (hc:Ctx P S w FP NoL [(w.heap.size,66,#[.int .i64 0,.int .i64 0])] W)=>hc.sys_.elim (fun FPd hs=>hown_at hs ht))
 have hown:t%P.na<P.na:=Nat.mod_lt _ (by omega)
 clear h hok c0 hs0
 generalize hsz:(Z.cAt P.T k).s=sz at *
 have HSZ:=Lib.hid hsz
 clear hsz
 generalize hnt:P.nt=nt at *
 have HNT:=Lib.hid hnt
 generalize hna:P.na=na at *
 have HNA:=Lib.hid hna
 generalize hq:t%na=q at *
 clear hnt hna
 have hta:=fun W=>ta_yes Tryz.underlying191 rfl (.agg #[.int .i64 k]) W
 unfold Ph.val
 go_enter Tryz.func77,Tryz.ntmps77
 go_wp2_with fail
 have hbd:=HC0.out.still NoL.framed ((Only.refl [] _).drew)
 go_region_held3 (fun U=>U.cell? ⟨P.h,7,none⟩=some (.slice (some ⟨P.gA,0,none⟩) na P.cA)/\U.cell? ⟨P.gA,q,none⟩=some (.pointer (some ⟨P.ar q,0,none⟩)))
  (exact stCells HNA.out hown (by assumption))
  (first
   |(go_at_call 81;with_reducible refine Still.use (CW.out _ hbd) ?_))
 generalize (w.alloc (.cells #[.int .i64 0,.int .i64 0] 66)).drew=W1 at *
 go_wp2_with fail
 have HB1:Hid (¬W1.heap.size=w.heap.size):=Nat.ne_of_gt (hbd.box (x:=(w.heap.size,66,#[.int .i64 0,.int .i64 0])) (by simp)).lt
 replace hbd:=hbd.push NoL.framed #[.int .i64 k] 191
 generalize hb1:W1.heap.size=b1 at *
 generalize W1.alloc (.cells #[.int .i64 k] 191)=W2 at *
 replace hbd:=hbd.still NoL.framed ((Only.refl [] W2).drew)
 go_region_held3 (fun U=>U.cell? ⟨P.gT,t*3,none⟩=some (.pointer (some ⟨P.cq t,0,none⟩))/\U.cell? ⟨b1,0,none⟩=some (.int .i64 k))
  (exact⟨(thCells (by rw[HNT.out];exact HT.out) (by assumption)).1,(bxCell hbd (mcs ..) 0 rfl).1⟩)
  (first
   |(go_at_call 82;with_reducible refine Calls.mono (CT.out _ _ hbd) ?_;rintro _ wN ⟨⟨C',a,er⟩,⟨rfl,hx⟩,hbN⟩;clear hbd;have hbd:=hbN;clear hbN))
 clear CT CW
 replace hbd:Ctx P (S.cac t C') w FP NoL [(b1,191,#[.int .i64 k]),(w.heap.size,66,#[.int .i64 0,.int .i64 0])] wN:=hbd
 have HBX:Hid (∀x∈ [(b1,191,#[Value.int .i64 k])],x∈ [(b1,191,#[Value.int .i64 k]),(w.heap.size,66,#[.int .i64 0,.int .i64 0])]/\x.1≠w.heap.size):=by
  intro x hx
  rw[List.mem_singleton] at hx
  subst hx
  exact⟨mcs ..,HB1.out⟩
 rcases hx with ⟨he,hx⟩|⟨he,hx⟩
 ·subst he
  have h0:0<ctok (S.C t) k a:=by
   have:=hx k a
   unfold one1 at this
   rw[if_pos ⟨rfl,rfl⟩] at this
   omega
  have HX:=Lib.hid hx
  have H0:=Lib.hid h0
  clear hx h0 CN
  go_wp2_with fail
  replace hbd:=hbd.still NoL.framed ((Only.refl [] wN).drew)
  go_region_held3 (fun U=>U.cell? ⟨P.h,0,none⟩=some (.slice (some P.ta) P.T.length P.tc)/\U.cell? (P.ta.add (k*3))=some (.int .i64 sz)/\U.cell? ⟨b1,0,none⟩=some (.int .i64 k))
   (first|exact⟨(tbCells HK.out HSZ.out rfl hbd).1,(tbCells HK.out HSZ.out rfl hbd).2.1,(bxCell hbd (mcs ..) 0 rfl).1⟩|exact⟨(tbCells HK.out HSZ.out rfl hbr).1,(tbCells HK.out HSZ.out rfl hbr).2.1,(bxCell hbr (mcm _ (mcs ..)) 0 rfl).1⟩)
   (first
    |(go_at_call 83;with_reducible refine Calls.mono (CB.out _ _ C' a H0.out hbd) ?_;rintro _ wM ⟨ar,⟨rfl,har⟩,hbN⟩;clear hbd;have hbd:=hbN;clear hbN;have hbr:=hbd.res (b:=w.heap.size) (mcm _ (mcs ..)) (Nat.le_refl _) HB3.out [(b1,191,#[.int .i64 k])] HBX.out a 0;have r0:=(bxCell hbd (mcm _ (mcs ..)) 0 rfl);have r1:=(bxCell hbd (mcm _ (mcs ..)) 1 rfl);obtain⟨r0,f0⟩:=r0;obtain⟨r1,f1⟩:=r1))
  have HBR:=Lib.hid hbr
  have HAR:=Lib.hid har
  clear hbr hbd har
  go_wp2_with fail
  refine bodyPost_ret (results_pr rfl rfl (bxCell HBR.out (mcs ..) 0 rfl).1 (bxCell HBR.out (mcs ..) 1 rfl).1) rfl ?_
  exact .inl ⟨C',a,ar,HX.out,rfl,HAR.out,HBR.out.turns⟩
 ·subst he
  have HX:=Lib.hid hx
  clear hx CB
  go_wp2_with fail
  replace hbd:=hbd.still NoL.framed ((Only.refl [] wN).drew)
  go_region_held3 (fun U=>U.cell? ⟨P.gT,t*3,none⟩=some (.pointer (some ⟨P.cq t,0,none⟩))/\U.cell? ⟨b1,0,none⟩=some (.int .i64 k))
   (exact⟨(thCells (by rw[HNT.out];exact HT.out) (by assumption)).1,(bxCell hbd (mcs ..) 0 rfl).1⟩)
   (first
    |(go_at_call 84;with_reducible refine Calls.mono (CN.out _ _ C' hbd) ?_;rintro _ wM ⟨⟨C2,n⟩,⟨rfl,hn1,hn2,hx2⟩,hbN⟩;clear hbd;have hbd:=hbN;clear hbN))
  replace hbd:Ctx P (S.cac t C2) w FP NoL [(b1,191,#[.int .i64 k]),(w.heap.size,66,#[.int .i64 0,.int .i64 0])] wM:=by rw[<-HS.cac_cac S t C' C2];exact hbd
  have hx2:∀j y,ctok C2 j y=ctok (S.C t) j y:=fun j y=>by
   have:=hx2 j y
   rw[show(S.cac t C').C t=C' from upd_at] at this
   exact this.trans (HX.out j y)
  have HX2:=Lib.hid hx2
  have HN2:=Lib.hid (And.intro hn1 hn2)
  have hbr:=hbd.res (b:=w.heap.size) (mcm _ (mcs ..)) (Nat.le_refl _) HB3.out [] (fun x hx=>by cases hx) 0 0
  obtain⟨r0,f0⟩:=bxCell hbd (mcm _ (mcs ..)) 0 rfl
  obtain⟨r1,f1⟩:=bxCell hbd (mcm _ (mcs ..)) 1 rfl
  have k0:=(bxCell hbd (mcs ..) 0 rfl).1
  have HBR:=Lib.hid hbr
  clear hbd hbr hx2 CN
  go_wp2_with fail
  refine bodyPost_ret (results_pr rfl rfl (bxCell HBR.out (mcs ..) 0 rfl).1 (bxCell HBR.out (mcs ..) 1 rfl).1) rfl ?_
  exact .inr ⟨C2,n,HX2.out,HN2.out.1,HN2.out.2,rfl,HBR.out.turns⟩
theorem afromT2_at {P:Hp} {S:HS} {w:World} {FP:List Nat} (h:HSys P S w FP) {a k:Nat} (ha:a<P.na) (hk:k<P.T.length):Calls Tryz.prog 85 #[.pointer (some ⟨P.ar a,0,none⟩),.int .i64 k] w fun e w'=>∃x:Value×List Int×List Bt×Int,
 (e=.returned (.tuple #[x.1,.int .i64 x.2.2.2])/\(∃A n c,x.1=.slice A n c)/\((x.2.2.2=0/\∃b,(S.X a k).getLast?=some b/\x.2.1=b.2/\x.2.2.1=(S.X a k).dropLast)\/(x.2.2.2=4/\x.2.2.1=S.X a k)))/\Gives (HSys P {S with X:=upd2 S.X a k x.2.2.1}) (OSt x.1 x.2.1) w FP w':=by
 refine(afromT_at h ha hk).mono ?_
 rintro e w' (⟨h1,rfl,h2⟩|⟨v,b,h1,rfl,h2⟩)
 ·refine⟨(.slice none 0 0,[],S.X a k,4),⟨rfl,⟨none,0,0,rfl⟩,.inr ⟨rfl,rfl⟩⟩,h2.of_nil,FP,[],?_,OSt.nil_ _,fun b hb=>.inl hb,fun b hb=>by cases hb⟩
  dsimp only
  rw[upd2_same]
  exact h.still h2
 ·obtain⟨_,_,fs,_,hO,_⟩:=id h2
  obtain⟨A,c,e,_⟩:=hO.1.form
  exact⟨(v,b.2,(S.X a k).dropLast,0),⟨rfl,⟨A,_,c,e⟩,.inl ⟨rfl,b,h1,rfl,rfl⟩⟩,h2⟩
set_option maxRecDepth 100000 in
set_option maxHeartbeats 8000000 in
theorem hsTransfer_at {P:Hp} {S:HS} {w:World} {FP:List Nat} (h:HSys P S w FP) {t k:Nat} {n:Int} (ht:t<P.nt) (hk:k<P.T.length) (hX:∀b∈S.X (t%P.na) k,0<b.2.length/\b.2.length<=256) (hH:(S.H t).length<=50):
 Calls Tryz.prog 77 #[.pointer (some ⟨P.h,0,none⟩),.int .i64 t,(Ph.transfer k n).val] w fun e w'=>
  (∃b v v',(S.X (t%P.na) k).getLast?=some b/\e=.returned (.tuple #[Ph.fill.val,.agg #[.int .i64 0,.int .i64 0]])/\Turns (HSys P (({S with X:=upd2 S.X (t%P.na) k (S.X (t%P.na) k).dropLast}:HS).hnd t v' (S.H t++[⟨k,v,b.2⟩]))) w FP w')\/
  (e=.returned (.tuple #[(Ph.central k n).val,.agg #[.int .i64 0,.int .i64 0]])/\Turns (HSys P S) w FP w'):=by
 have HXX:=Lib.hid hX
 have c0:=(Ctx.start h).push NoL.framed #[.int .i64 0,.int .i64 0] 66
 have HC0:=Lib.hid c0
 have HT:=Lib.hid ht
 obtain⟨FP0,hs0⟩:=c0.sys_
 have z8:=hs0.hcells.c8
 obtain⟨n1,n2,n3,n4,n5,n6,n7,n8,n9⟩:=h.nums
 have HB3:=Lib.hid h.big
 have HK:=Lib.hid hk
 have CT:=Lib.hid (fun (W:World) (bx:List (Nat×TypeId×Array Value)) (hc:Ctx P S w FP NoL bx W)=>hc.callG (fun FPc hs=>afromT2_at hs (Nat.mod_lt t (show 0<P.na by omega)) hk))
 have CH:=Lib.hid (fun (W:World) (v:Value) (o:List Int) (X':List Bt) (bx:List (Nat×TypeId×Array Value)) (h0:0<o.length) (h1:o.length<=256) (hc:Ctx P {S with X:=upd2 S.X (t%P.na) k X'} w FP (OSt v o) bx W)=>hhold_at hc ht k hk h0 h1 hH)
 have CW:=Lib.hid (fun (W:World) (hc:Ctx P S w FP NoL [(w.heap.size,66,#[.int .i64 0,.int .i64 0])] W)=>hc.sys_.elim (fun FPd hs=>hown_at hs ht))
 have hown:t%P.na<P.na:=Nat.mod_lt _ (by omega)
 clear h c0 hs0
 generalize hbt:(Z.cAt P.T k).b=bt at *
 have HBT:=Lib.hid hbt
 clear hbt
 generalize hnt:P.nt=nt at *
 have HNT:=Lib.hid hnt
 generalize hna:P.na=na at *
 have HNA:=Lib.hid hna
 generalize hq:t%na=q at *
 clear hnt hna hq
 have hta0:=fun W=>ta_no (T:=191) (T':=194) Tryz.underlying191 rfl (by decide) z_take (.agg #[.int .i64 k,.int .i64 n]) W
 have hta:=fun W=>ta_yes Tryz.underlying194 rfl (.agg #[.int .i64 k,.int .i64 n]) W
 unfold Ph.val
 go_enter Tryz.func77,Tryz.ntmps77
 go_wp2_with fail
 have hbd:=HC0.out.still NoL.framed ((Only.refl [] _).drew)
 go_region_held3 (fun U=>U.cell? ⟨P.h,7,none⟩=some (.slice (some ⟨P.gA,0,none⟩) na P.cA)/\U.cell? ⟨P.gA,q,none⟩=some (.pointer (some ⟨P.ar q,0,none⟩)))
  (exact stCells HNA.out hown (by assumption))
  (first
   |(go_at_call 81;with_reducible refine Still.use (CW.out _ hbd) ?_))
 generalize (w.alloc (.cells #[.int .i64 0,.int .i64 0] 66)).drew=W1 at *
 clear CW HC0 z8
 have HB1:Hid (¬W1.heap.size=w.heap.size):=Nat.ne_of_gt (hbd.box (x:=(w.heap.size,66,#[.int .i64 0,.int .i64 0])) (by simp)).lt
 replace hbd:=hbd.push NoL.framed #[.int .i64 k,.int .i64 n] 194
 generalize hb1:W1.heap.size=b1 at *
 by_cases hnb:n=bt
 ·have hq1:(n==bt)=true:=beq_iff_eq.2 hnb
  clear hnb
  obtain⟨y0,y1,y2⟩:=tbCells HK.out rfl HBT.out (hbd.still NoL.framed ((Only.refl [] _).drew))
  obtain⟨x0,_⟩:=bxCell hbd (mcs ..) 0 rfl
  obtain⟨x1,_⟩:=bxCell hbd (mcs ..) 1 rfl
  have HBD:=Lib.hid hbd
  clear hbd
  go_wp2_with fail
  go_region
  go_wp2_with fail
  refine(CT.out _ _ (HBD.out.still NoL.framed ((Only.refl [] _).drew))).mono ?_
  rintro r wN ⟨⟨v,l,X',er⟩,⟨hr,hv,hx⟩,hbN⟩
  dsimp only at hr hv hx hbN
  obtain⟨A,m,c,rfl⟩:=hv
  subst hr
  rcases hx with ⟨rfl,b,hb1,rfl,rfl⟩|⟨rfl,rfl⟩
  ·have hmem:b∈S.X q k:=List.mem_of_getLast? hb1
   obtain⟨hl0,hl1⟩:=HXX.out b hmem
   have HB:=Lib.hid hb1
   obtain⟨x0,_⟩:=bxCell hbN (mcs ..) 0 rfl
   have HBN:=Lib.hid hbN
   clear hbN hb1 hmem CT HBD
   go_wp2_with fail
   refine(CH.out _ _ _ _ _ hl0 hl1 HBN.out).mono ?_
   rintro r wM ⟨rfl,v',hbd⟩
   have hbr:=hbd.res (b:=w.heap.size) (mcm _ (mcs ..)) (Nat.le_refl _) HB3.out [] (fun x hx=>by cases hx) 0 0
   obtain⟨r0,f0⟩:=bxCell hbd (mcm _ (mcs ..)) 0 rfl
   obtain⟨r1,f1⟩:=bxCell hbd (mcm _ (mcs ..)) 1 rfl
   have HBR:=Lib.hid hbr
   clear hbd hbr CH HBN
   go_wp2_with fail
   refine bodyPost_ret (results_pr rfl rfl (bxCell HBR.out (mcs ..) 0 rfl).1 (bxCell HBR.out (mcs ..) 1 rfl).1) rfl ?_
   exact .inl ⟨b,_,v',HB.out,rfl,HBR.out.turns⟩
  ·rw[upd2_same] at hbN
   have hbd:=hbN.drop
   have hbr:=hbd.res (b:=w.heap.size) (mcm _ (mcs ..)) (Nat.le_refl _) HB3.out [] (fun x hx=>by cases hx) 0 0
   obtain⟨r0,f0⟩:=bxCell hbd (mcm _ (mcs ..)) 0 rfl
   obtain⟨r1,f1⟩:=bxCell hbd (mcm _ (mcs ..)) 1 rfl
   obtain⟨x0,_⟩:=bxCell hbd (mcs ..) 0 rfl
   obtain⟨x1,_⟩:=bxCell hbd (mcs ..) 1 rfl
   have HBR:=Lib.hid hbr
   clear hbd hbr
   go_wp2_with fail
   refine bodyPost_ret (results_pr rfl rfl (bxCell HBR.out (mcs ..) 0 rfl).1 (bxCell HBR.out (mcs ..) 1 rfl).1) rfl ?_
   exact .inr ⟨rfl,HBR.out.turns⟩
 ·have hq1:(n==bt)=false:=beq_eq_false_iff_ne.2 hnb
  clear hnb
  obtain⟨y0,y1,y2⟩:=tbCells HK.out rfl HBT.out (hbd.still NoL.framed ((Only.refl [] _).drew))
  obtain⟨x0,_⟩:=bxCell hbd (mcs ..) 0 rfl
  obtain⟨x1,_⟩:=bxCell hbd (mcs ..) 1 rfl
  have HBD:=Lib.hid hbd
  clear hbd
  go_wp2_with fail
  generalize W1.alloc (.cells #[.int .i64 k,.int .i64 n] 194)=W2 at *
  go_region
  have hbd:=HBD.out.still NoL.framed ((Only.refl [] _).drew)
  clear x0 x1 y0 y1 y2
  generalize W2.drew=W3 at *
  have hbr:=hbd.res (b:=w.heap.size) (mcm _ (mcs ..)) (Nat.le_refl _) HB3.out [] (fun x hx=>by cases hx) 0 0
  obtain⟨r0,f0⟩:=bxCell hbd (mcm _ (mcs ..)) 0 rfl
  obtain⟨r1,f1⟩:=bxCell hbd (mcm _ (mcs ..)) 1 rfl
  obtain⟨x0,_⟩:=bxCell hbd (mcs ..) 0 rfl
  obtain⟨x1,_⟩:=bxCell hbd (mcs ..) 1 rfl
  have HBR:=Lib.hid hbr
  clear hbd hbr
  go_wp2_with fail
  refine bodyPost_ret (results_pr rfl rfl (bxCell HBR.out (mcs ..) 0 rfl).1 (bxCell HBR.out (mcs ..) 1 rfl).1) rfl ?_
  exact .inr ⟨rfl,HBR.out.turns⟩
theorem afromC2_at {P:Hp} {S:HS} {w:World} {FP:List Nat} (h:HSys P S w FP) {a k:Nat} (ha:a<P.na) (hk:k<P.T.length) (m:Int) (hm:0<=m):Calls Tryz.prog 87 #[.pointer (some ⟨P.ar a,0,none⟩),.int .i64 k,.int .i64 m] w fun e w'=>∃x:Value,
 (e=.returned (.tuple #[x,.int .i64 0])/\∃A c,x=.slice A (takesTo (S.M a k) m.toNat).1.length c)/\Gives (HSys P {S with M:=upd2 S.M a k (takesTo (S.M a k) m.toNat).2}) (OSt x (takesTo (S.M a k) m.toNat).1) w FP w':=by
 refine(afromC_at h ha hk m hm).mono ?_
 rintro e w' ⟨v,rfl,h2⟩
 obtain⟨_,_,fs,_,hO,_⟩:=id h2
 obtain⟨A,c,e,_⟩:=hO.1.form
 exact⟨v,⟨rfl,A,c,e⟩,h2⟩
set_option maxRecDepth 100000 in
set_option maxHeartbeats 8000000 in
theorem hsCentral_at {P:Hp} {S:HS} {w:World} {FP:List Nat} (h:HSys P S w FP) {t k:Nat} {n:Int} (ht:t<P.nt) (hk:k<P.T.length) (hn:0<=n/\n<=32) (hH:(S.H t).length<=50):
 Calls Tryz.prog 77 #[.pointer (some ⟨P.h,0,none⟩),.int .i64 t,(Ph.central k n).val] w fun e w'=>
  (0<(takesTo (S.M (t%P.na) k) n.toNat).1.length/\∃v v',e=.returned (.tuple #[Ph.fill.val,.agg #[.int .i64 0,.int .i64 0]])/\Turns (HSys P (({S with M:=upd2 S.M (t%P.na) k (takesTo (S.M (t%P.na) k) n.toNat).2}:HS).hnd t v' (S.H t++[⟨k,v,(takesTo (S.M (t%P.na) k) n.toNat).1⟩]))) w FP w')\/
  ((takesTo (S.M (t%P.na) k) n.toNat).1.length=0/\e=.returned (.tuple #[(Ph.grow k n).val,.agg #[.int .i64 0,.int .i64 0]])/\Turns (HSys P {S with M:=upd2 S.M (t%P.na) k (takesTo (S.M (t%P.na) k) n.toNat).2}) w FP w'):=by
 have HLE:Hid ((takesTo (S.M (t%P.na) k) n.toNat).1.length<=256):=by
  have:=takesTo_len (S.M (t%P.na) k) n.toNat
  show _<=_
  omega
 have c0:=(Ctx.start h).push NoL.framed #[.int .i64 0,.int .i64 0] 66
 have HC0:=Lib.hid c0
 have HT:=Lib.hid ht
 obtain⟨FP0,hs0⟩:=c0.sys_
 have z8:=hs0.hcells.c8
 obtain⟨n1,n2,n3,n4,n5,n6,n7,n8,n9⟩:=h.nums
 have HB3:=Lib.hid h.big
 have CT:=Lib.hid (fun (W:World) (bx:List (Nat×TypeId×Array Value)) (hc:Ctx P S w FP NoL bx W)=>hc.callG (fun FPc hs=>afromC2_at hs (Nat.mod_lt t (show 0<P.na by omega)) hk n hn.1))
 have CH:=Lib.hid (fun (W:World) (v:Value) (bx:List (Nat×TypeId×Array Value)) (h0:0<(takesTo (S.M (t%P.na) k) n.toNat).1.length) (hc:Ctx P {S with M:=upd2 S.M (t%P.na) k (takesTo (S.M (t%P.na) k) n.toNat).2} w FP (OSt v (takesTo (S.M (t%P.na) k) n.toNat).1) bx W)=>hhold_at hc ht k hk h0 HLE.out hH)
 have CW:=Lib.hid (fun (W:World) (hc:Ctx P S w FP NoL [(w.heap.size,66,#[.int .i64 0,.int .i64 0])] W)=>hc.sys_.elim (fun FPd hs=>hown_at hs ht))
 have hown:t%P.na<P.na:=Nat.mod_lt _ (by omega)
 clear h c0 hs0
 generalize (takesTo (S.M (t%P.na) k) n.toNat).1=l at *
 generalize (takesTo (S.M (t%P.na) k) n.toNat).2=M2 at *
 generalize hnt:P.nt=nt at *
 have HNT:=Lib.hid hnt
 generalize hna:P.na=na at *
 have HNA:=Lib.hid hna
 generalize hq:t%na=q at *
 clear hnt hna hq
 have hta0:=fun W=>ta_no (T:=191) (T':=200) Tryz.underlying191 rfl (by decide) z_take (.agg #[.int .i64 k,.int .i64 n]) W
 have hta1:=fun W=>ta_no (T:=194) (T':=200) Tryz.underlying194 rfl (by decide) z_transfer (.agg #[.int .i64 k,.int .i64 n]) W
 have hta:=fun W=>ta_yes Tryz.underlying200 rfl (.agg #[.int .i64 k,.int .i64 n]) W
 unfold Ph.val
 go_enter Tryz.func77,Tryz.ntmps77
 go_wp2_with fail
 have hbd:=HC0.out.still NoL.framed ((Only.refl [] _).drew)
 go_region_held3 (fun U=>U.cell? ⟨P.h,7,none⟩=some (.slice (some ⟨P.gA,0,none⟩) na P.cA)/\U.cell? ⟨P.gA,q,none⟩=some (.pointer (some ⟨P.ar q,0,none⟩)))
  (exact stCells HNA.out hown (by assumption))
  (first
   |(go_at_call 81;with_reducible refine Still.use (CW.out _ hbd) ?_))
 generalize (w.alloc (.cells #[.int .i64 0,.int .i64 0] 66)).drew=W1 at *
 clear CW HC0 z8
 have HB1:Hid (¬W1.heap.size=w.heap.size):=Nat.ne_of_gt (hbd.box (x:=(w.heap.size,66,#[.int .i64 0,.int .i64 0])) (by simp)).lt
 replace hbd:=hbd.push NoL.framed #[.int .i64 k,.int .i64 n] 200
 generalize hb1:W1.heap.size=b1 at *
 obtain⟨x0,_⟩:=bxCell hbd (mcs ..) 0 rfl
 obtain⟨x1,_⟩:=bxCell hbd (mcs ..) 1 rfl
 have HBD:=Lib.hid hbd
 clear hbd
 go_wp2_with fail
 refine(CT.out _ _ HBD.out).mono ?_
 rintro r wN ⟨x,⟨rfl,A,c,rfl⟩,hbN⟩
 have HBN:=Lib.hid hbN
 obtain⟨x2,_⟩:=bxCell hbN (mcs ..) 0 rfl
 clear x0 x1 HBD CT
 by_cases hz:l.length=0
 ·have HZ:=Lib.hid hz
  have hbd:=hbN.drop
  have hbr:=hbd.res (b:=w.heap.size) (mcm _ (mcs ..)) (Nat.le_refl _) HB3.out [] (fun x hx=>by cases hx) 0 0
  obtain⟨r0,f0⟩:=bxCell hbd (mcm _ (mcs ..)) 0 rfl
  obtain⟨r1,f1⟩:=bxCell hbd (mcm _ (mcs ..)) 1 rfl
  obtain⟨x3,_⟩:=bxCell hbd (mcs ..) 1 rfl
  have HBR:=Lib.hid hbr
  rw[hz]
  clear hbd hbr hbN hz
  go_wp2_with fail
  refine bodyPost_ret (results_pr rfl rfl (bxCell HBR.out (mcs ..) 0 rfl).1 (bxCell HBR.out (mcs ..) 1 rfl).1) rfl ?_
  exact .inr ⟨HZ.out,rfl,HBR.out.turns⟩
 ·have HZ:Hid (0<l.length):=Nat.pos_of_ne_zero hz
  generalize hlm:l.length=m at *
  have HLM:=Lib.hid hlm
  clear hlm
  have d1:decide ((0:Int)<m)=true:=decide_eq_true (by omega)
  have d1':decide (0<m)=true:=decide_eq_true (by omega)
  clear hbN
  go_wp2_with fail
  refine(CH.out _ _ _ HZ.out HBN.out).mono ?_
  rintro r wM ⟨rfl,v',hbd⟩
  have hbr:=hbd.res (b:=w.heap.size) (mcm _ (mcs ..)) (Nat.le_refl _) HB3.out [] (fun x hx=>by cases hx) 0 0
  obtain⟨r0,f0⟩:=bxCell hbd (mcm _ (mcs ..)) 0 rfl
  obtain⟨r1,f1⟩:=bxCell hbd (mcm _ (mcs ..)) 1 rfl
  have HBR:=Lib.hid hbr
  clear hbd hbr CH HBN
  go_wp2_with fail
  refine bodyPost_ret (results_pr rfl rfl (bxCell HBR.out (mcs ..) 0 rfl).1 (bxCell HBR.out (mcs ..) 1 rfl).1) rfl ?_
  exact .inl ⟨by rw[HLM.out];exact HZ.out,_,v',rfl,HBR.out.turns⟩
def GrownS (P:Hp) (S:HS) (a k:Nat) (S':HS) (er:Int):Prop:=(er=6/\Grw S a S')\/
 (∃(S1:HS) (o:Nat) (B2:Nat->Int->Bool) (L2:Nat->Int) (m:Nat),(m:Int)=(Z.cAt P.T k).p/\Grw S a S1/\er=addE (S.M a k) (P.cl k) o/\(o+m<=256/\(∀x:Int,o<=x->x<o+m->bF (S1.B a) x)/\∀x,bF B2 x↔bF (S1.B a) x/\¬((o:Int)<=x/\x<o+m))/\SameL (S1.L a) L2/\
  S'={S1.bk a B2 L2 with M:=upd2 S.M a k (addM (S.M a k) (P.cl k) o)})
set_option maxRecDepth 100000 in
set_option maxHeartbeats 8000000 in
theorem hsGrow_at {P:Hp} {S:HS} {w:World} {FP:List Nat} (h:HSys P S w FP) {t k:Nat} {n:Int} (ht:t<P.nt) (hk:k<P.T.length) (hn:S.sp.n=256) (hfree:∀x,S.sp.st x=0->¬bF (S.B (t%P.na)) x) (hU:∀j,S.L (t%P.na) j=0↔S.L (t%P.na) (16*(j/16))=0):
 Calls Tryz.prog 77 #[.pointer (some ⟨P.h,0,none⟩),.int .i64 t,(Ph.grow k n).val] w fun e w'=>∃S' er,GrownS P S (t%P.na) k S' er/\Turns (HSys P S') w FP w'/\
  ((er≠0/\e=.returned (.tuple #[.nilIface,.agg #[.int .i64 0,.int .i64 er]]))\/(er=0/\e=.returned (.tuple #[(Ph.central k n).val,.agg #[.int .i64 0,.int .i64 0]]))):=by
 have c0:=(Ctx.start h).push NoL.framed #[.int .i64 0,.int .i64 0] 66
 have HC0:=Lib.hid c0
 have HT:=Lib.hid ht
 obtain⟨FP0,hs0⟩:=c0.sys_
 have z8:=hs0.hcells.c8
 obtain⟨n1,n2,n3,n4,n5,n6,n7,n8,n9⟩:=h.nums
 have HB3:=Lib.hid h.big
 have CT:=Lib.hid (fun (W:World) (bx:List (Nat×TypeId×Array Value)) (hc:Ctx P S w FP NoL bx W)=>hc.call (f:=88) (args:=#[.pointer (some ⟨P.ar (t%P.na),0,none⟩),.int .i64 k]) (α:=HS×Int) (R:=fun x e=>e=.returned (.int .i64 x.2)/\GrownS P S (t%P.na) k x.1 x.2) (S':=fun x=>x.1) NoL.framed (fun FPc hs=>(aGrow_at hs (Nat.mod_lt t (show 0<P.na by omega)) hk hn hfree hU).mono (fun e w' h=>h.elim (fun ⟨S1,q1,q2,q3⟩=>⟨(S1,6),⟨q2,.inl ⟨rfl,q1⟩⟩,q3⟩) (fun ⟨S1,o,B2,L2,m,q1,q2,q3,q4,q5,q6⟩=>⟨(_,_),⟨q3,.inr ⟨S1,o,B2,L2,m,q1,q2,rfl,q4,q5,rfl⟩⟩,q6⟩))))
 have CW:=Lib.hid (fun (W:World) (hc:Ctx P S w FP NoL [(w.heap.size,66,#[.int .i64 0,.int .i64 0])] W)=>hc.sys_.elim (fun FPd hs=>hown_at hs ht))
 have hown:t%P.na<P.na:=Nat.mod_lt _ (by omega)
 clear h c0 hs0
 clear hfree hU hn
 generalize hnt:P.nt=nt at *
 have HNT:=Lib.hid hnt
 generalize hna:P.na=na at *
 have HNA:=Lib.hid hna
 generalize hq:t%na=q at *
 clear hnt hna hq
 have hta0:=fun W=>ta_no (T:=191) (T':=202) Tryz.underlying191 rfl (by decide) z_take (.agg #[.int .i64 k,.int .i64 n]) W
 have hta1:=fun W=>ta_no (T:=194) (T':=202) Tryz.underlying194 rfl (by decide) z_transfer (.agg #[.int .i64 k,.int .i64 n]) W
 have hta2:=fun W=>ta_no (T:=200) (T':=202) Tryz.underlying200 rfl (by decide) z_central (.agg #[.int .i64 k,.int .i64 n]) W
 have hta:=fun W=>ta_yes Tryz.underlying202 rfl (.agg #[.int .i64 k,.int .i64 n]) W
 unfold Ph.val
 go_enter Tryz.func77,Tryz.ntmps77
 go_wp2_with fail
 have hbd:=HC0.out.still NoL.framed ((Only.refl [] _).drew)
 go_region_held3 (fun U=>U.cell? ⟨P.h,7,none⟩=some (.slice (some ⟨P.gA,0,none⟩) na P.cA)/\U.cell? ⟨P.gA,q,none⟩=some (.pointer (some ⟨P.ar q,0,none⟩)))
  (exact stCells HNA.out hown (by assumption))
  (first
   |(go_at_call 81;with_reducible refine Still.use (CW.out _ hbd) ?_))
 generalize (w.alloc (.cells #[.int .i64 0,.int .i64 0] 66)).drew=W1 at *
 clear CW HC0 z8
 have HB1:Hid (¬W1.heap.size=w.heap.size):=Nat.ne_of_gt (hbd.box (x:=(w.heap.size,66,#[.int .i64 0,.int .i64 0])) (by simp)).lt
 replace hbd:=hbd.push NoL.framed #[.int .i64 k,.int .i64 n] 202
 generalize hb1:W1.heap.size=b1 at *
 obtain⟨x0,_⟩:=bxCell hbd (mcs ..) 0 rfl
 have HBD:=Lib.hid hbd
 clear hbd
 go_wp2_with fail
 refine(CT.out _ _ HBD.out).mono ?_
 rintro r wN ⟨⟨S',er⟩,⟨rfl,hgs⟩,hbd⟩
 have HGS:=Lib.hid hgs
 replace hbd:Ctx P S' w FP NoL _ wN:=hbd
 obtain⟨r0,f0⟩:=bxCell hbd (mcm _ (mcs ..)) 0 rfl
 obtain⟨r1,f1⟩:=bxCell hbd (mcm _ (mcs ..)) 1 rfl
 obtain⟨y0,_⟩:=bxCell hbd (mcs ..) 0 rfl
 obtain⟨y1,_⟩:=bxCell hbd (mcs ..) 1 rfl
 clear x0 HBD CT hgs
 by_cases he:er=0
 ·subst he
  have HBR:=Lib.hid (hbd.res (b:=w.heap.size) (mcm _ (mcs ..)) (Nat.le_refl _) HB3.out [] (fun x hx=>by cases hx) 0 0)
  clear hbd
  go_wp2_with fail
  refine bodyPost_ret (results_pr rfl rfl (bxCell HBR.out (mcs ..) 0 rfl).1 (bxCell HBR.out (mcs ..) 1 rfl).1) rfl ?_
  exact⟨S',0,HGS.out,HBR.out.turns,.inr ⟨rfl,rfl⟩⟩
 ·have hb:(er != 0)=true:=bne_iff_ne.2 he
  have HE:=Lib.hid he
  have HBR:=Lib.hid (hbd.res (b:=w.heap.size) (mcm _ (mcs ..)) (Nat.le_refl _) HB3.out [] (fun x hx=>by cases hx) 0 er)
  clear hbd he
  go_wp2_with fail
  refine bodyPost_ret (results_pr rfl rfl (bxCell HBR.out (mcs ..) 0 rfl).1 (bxCell HBR.out (mcs ..) 1 rfl).1) rfl ?_
  exact⟨S',er,HGS.out,HBR.out.turns,.inl ⟨HE.out,rfl⟩⟩
end Go.Proofs.YtcidjimefnhacaaGreatDoor
