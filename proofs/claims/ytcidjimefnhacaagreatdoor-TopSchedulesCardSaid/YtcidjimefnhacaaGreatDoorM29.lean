/- TopSchedules, a part of the proof: GM, Pb, GL. -/
import Derived.Test.YtcidjimefnhacaaGreatDoorM28
import Derived.Test.YtcidjimefnhacaaGreatDoorM26
set_option linter.unusedVariables false
set_option linter.unusedSimpArgs false
namespace Go.Proofs.YtcidjimefnhacaaGreatDoor
open Go.RowKit
set_option maxRecDepth 100000 in
set_option maxHeartbeats 8000000 in
theorem hsPut_at {P:Hp} {S:HS} {w:World} {FP:List Nat} (h:HSys P S w FP) {t k:Nat} {a:Int} (ht:t<P.nt) (hk:k<P.T.length) {b:HB} (hH:S.H t=[b]):
 Calls Tryz.prog 77 #[.pointer (some ⟨P.h,0,none⟩),.int .i64 t,(Ph.put k a).val] w fun e w'=>∃C' v L,(∀j y,ctok C' j y+htok L j y<=ctok (S.C t) j y+one1 k a j y)/\L.length<=41/\Turns (HSys P ((S.cac t C').hnd t v L)) w FP w'/\e=.returned (.tuple #[if L=[] then Ph.none.val else Ph.back.val,.agg #[.int .i64 0,.int .i64 0]]):=by
 have c0:=(Ctx.start h).push NoL.framed #[.int .i64 0,.int .i64 0] 66
 have HC0:=Lib.hid c0
 have HT:=Lib.hid ht
 obtain⟨FP0,hs0⟩:=c0.sys_
 have z8:=hs0.hcells.c8
 obtain⟨n1,n2,n3,n4,n5,n6,n7,n8,n9⟩:=h.nums
 have HB3:=Lib.hid h.big
 have CT:=Lib.hid (fun (W:World) (bx:List (Nat×TypeId×Array Value)) (hc:Ctx P S w FP NoL bx W)=>hc.callG (fun FPc hs=>hcPut_at hs ht hk a))
 have CH:=Lib.hid (fun (W:World) (v:Value) (o:List Int) (C':Int->Option CE) (bx:List (Nat×TypeId×Array Value)) (h0:0<o.length) (h1:o.length<=256) (hc:Ctx P (S.cac t C') w FP (OSt v o) bx W)=>hhold_at hc ht k hk h0 h1 (by show(S.H t).length<=50;rw[hH];simp))
 have CO:=Lib.hid (fun (W:World) (S2:HS) (bx:List (Nat×TypeId×Array Value)) (hc:Ctx P S2 w FP NoL bx W)=>hc.sys_.elim (fun FPd hs=>hcOver_at hs ht))
 have CS:=Lib.hid (fun (W:World) (S2:HS) (bx:List (Nat×TypeId×Array Value)) (hc:Ctx P S2 w FP NoL bx W)=>hc.callG (fun FPc hs=>hcBG_at hs ht (F:=94) (fun h=>cscav_at h)))
 have CR:=Lib.hid (fun (W:World) (S2:HS) (bx:List (Nat×TypeId×Array Value)) (hc:Ctx P S2 w FP NoL bx W)=>hc.sys_.elim (fun FPd hs=>hret_at hs ht))
 have CW:=Lib.hid (fun (W:World) (hc:Ctx P S w FP NoL [(w.heap.size,66,#[.int .i64 0,.int .i64 0])] W)=>hc.sys_.elim (fun FPd hs=>hown_at hs ht))
 have hown:t%P.na<P.na:=Nat.mod_lt _ (by omega)
 clear h c0 hs0
 generalize hnt:P.nt=nt at *
 have HNT:=Lib.hid hnt
 generalize hna:P.na=na at *
 have HNA:=Lib.hid hna
 generalize hq:t%na=q at *
 clear hnt hna hq
 have hta0:=fun W=>ta_no (T:=191) (T':=214) Tryz.underlying191 rfl (by decide) z_take (.agg #[.int .i64 k,.int .i64 a]) W
 have hta1:=fun W=>ta_no (T:=194) (T':=214) Tryz.underlying194 rfl (by decide) z_transfer (.agg #[.int .i64 k,.int .i64 a]) W
 have hta2:=fun W=>ta_no (T:=200) (T':=214) Tryz.underlying200 rfl (by decide) z_central (.agg #[.int .i64 k,.int .i64 a]) W
 have hta3:=fun W=>ta_no (T:=202) (T':=214) Tryz.underlying202 rfl (by decide) z_grow (.agg #[.int .i64 k,.int .i64 a]) W
 have hta4:=fun W=>ta_no (T:=199) (T':=214) Tryz.underlying199 rfl (by decide) z_fill (.agg #[.int .i64 k,.int .i64 a]) W
 have hta5:=fun W=>ta_no (T:=208) (T':=214) Tryz.underlying208 rfl (by decide) z_large (.agg #[.int .i64 k,.int .i64 a]) W
 have hta6:=fun W=>ta_no (T:=211) (T':=214) Tryz.underlying211 rfl (by decide) z_find (.agg #[.int .i64 k,.int .i64 a]) W
 have hta:=fun W=>ta_yes Tryz.underlying214 rfl (.agg #[.int .i64 k,.int .i64 a]) W
 unfold Ph.val
 go_enter Tryz.func77,Tryz.ntmps77
 go_wp2_with fail
 have hbd:=HC0.out.still NoL.framed ((Only.refl [] _).drew)
 go_region_held3 (fun U=>U.cell? ⟨P.h,7,none⟩=some (.slice (some ⟨P.gA,0,none⟩) na P.cA)/\U.cell? ⟨P.gA,q,none⟩=some (.pointer (some ⟨P.ar q,0,none⟩)))
  (exact stCells HNA.out hown (by assumption))
  (first
   |(go_at_call 81;with_reducible refine Still.use (CW.out _ hbd) ?_))
 generalize (w.alloc (.cells #[.int .i64 0,.int .i64 0] 66)).drew=W1 at *
 clear CW HC0 z8
 have HB1:Hid (¬W1.heap.size=w.heap.size):=Nat.ne_of_gt (hbd.box (x:=(w.heap.size,66,#[.int .i64 0,.int .i64 0])) (by simp)).lt
 replace hbd:=hbd.push NoL.framed #[.int .i64 k,.int .i64 a] 214
 generalize hb1:W1.heap.size=b1 at *
 obtain⟨i0,hi,hz0,hz1,hz2⟩:=info_parts info_bt
 go_wp2_with fail
 generalize W1.alloc (.cells #[.int .i64 k,.int .i64 a] 214)=W2 at *
 replace hbd:=hbd.still NoL.framed ((Only.refl [] W2).drew)
 go_region_held3 (fun U=>U.cell? ⟨P.gT,t*3,none⟩=some (.pointer (some ⟨P.cq t,0,none⟩))/\U.cell? ⟨b1,0,none⟩=some (.int .i64 k)/\U.cell? ⟨b1,1,none⟩=some (.int .i64 a))
  (exact⟨(thCells (by rw[HNT.out];exact HT.out) (by assumption)).1,(bxCell hbd (mcs ..) 0 rfl).1,(bxCell hbd (mcs ..) 1 rfl).1⟩)
  (first
   |(go_at_call 92;with_reducible refine Calls.mono (CT.out _ _ hbd) ?_;rintro _ wN ⟨⟨C',v,l,er⟩,⟨rfl,hl1,hx⟩,hbN⟩;clear hbd;have hbd:=hbN;clear hbN;obtain⟨Av,cv,ev⟩:=hbd.formL;dsimp only at ev;subst ev))
 replace hbd:Ctx P (S.cac t C') w FP (OSt (.slice Av l.length cv) l) [(b1,214,#[.int .i64 k,.int .i64 a]),(w.heap.size,66,#[.int .i64 0,.int .i64 0])] wN:=hbd
 clear CT
 have x0:=(bxCell hbd (mcs ..) 0 rfl).1
 by_cases hz:l.length=0
 ·have hl0:l=[]:=List.eq_nil_of_length_eq_zero hz
  have HX:Hid (∀j y,ctok C' j y+htok [] j y<=ctok (S.C t) j y+one1 k a j y):=fun j y=>by
   have:=hx j y
   rw[hl0] at this
   simp[htok] at this ⊢
   exact this
  replace hbd:=hbd.drop
  obtain⟨L1,hL1⟩:∃L:List HB,L=[]:=⟨_,rfl⟩
  have hH2:(S.cac t C').H t=b::L1:=by rw[hL1];exact hH
  have HS2:Hid ((∀C2 v2 L2,((S.cac t C').cac t C2).hnd t v2 L2=(S.cac t C2).hnd t v2 L2)/\(∀v2 L2,(S.cac t C').hnd t v2 L2=(S.cac t C').hnd t v2 L2)/\(S.cac t C').C t=C'/\L1.length<=1/\∀j y,ctok C' j y+htok L1 j y<=ctok (S.C t) j y+one1 k a j y):=⟨fun C2 v2 L2=>by rw[HS.cac_cac],fun _ _=>rfl,upd_at,by rw[hL1];decide,by rw[hL1];exact HX.out⟩
  obtain⟨SC,hSC⟩:∃S1:HS,S1=S.cac t C':=⟨_,rfl⟩
  have HSC:=Lib.hid hSC
  replace HS2:Hid ((∀C2 v2 L2,((S.cac t C').cac t C2).hnd t v2 L2=(S.cac t C2).hnd t v2 L2)/\(∀v2 L2,(S.cac t C').hnd t v2 L2=SC.hnd t v2 L2)/\(S.cac t C').C t=C'/\L1.length<=1/\∀j y,ctok C' j y+htok L1 j y<=ctok (S.C t) j y+one1 k a j y):=by rw[hSC];exact HS2
  clear hSC
  rw[hz]
  replace hbd:Ctx P (S.cac t C') w FP NoL [(b1,214,#[.int .i64 k,.int .i64 a]),(w.heap.size,66,#[.int .i64 0,.int .i64 0])] wN:=hbd
  clear hz hl0 hx hL1 HX x0
  generalize S.cac t C'=S2 at hbd hH2 HS2
  obtain⟨g,off,c,A,c',t1,t2,t3,t4,hc3⟩:=hbd.handsT (by rw[HNT.out];exact HT.out) hH2
  have HT2:=Lib.hid t2
  have HC3:=Lib.hid hc3
  have p0:=(thCells (t:=t) (by rw[HNT.out];exact HT.out) hbd).1
  have p3:=(thCells (t:=t) (by rw[HNT.out];exact HT.out) hc3).1
  generalize hm1:L1.length=m1 at *
  have HM1:=Lib.hid hm1
  clear hm1 t1 t2 hc3 hbd hH2
  go_wp2_with (refine wpList_slice_from2 rfl 114 _ _ rfl 205 elem_bts Tryz.underlying114 i0 hi hz1 (some ⟨g,off,none⟩) (m1+1) c 1 rfl rfl (by omega) ?_;intro vs hvs;rw[HT2.out] at hvs;subst hvs)
  refine(CO.out _ _ _ HC3.out).mono ?_
  rintro r wO ⟨ov,rfl,hoO⟩
  have hbd:=HC3.out.still NoL.framed hoO
  have hm1:m1<=1:=HM1.out▸HS2.out.2.2.2.1
  clear HC3 HT2 CO p0 p3 t3 t4
  cases ov with
  |true=>
   have hc4:=hbd.still NoL.framed ((Only.refl [] wO).drew)
   obtain⟨p4,p5,_⟩:=thCells (t:=t) (by rw[HNT.out];exact HT.out) hc4
   rw[show(S2.hnd t (.slice A m1 c') L1).hv t=.slice A m1 c' from upd_at] at p5
   have HC4:=Lib.hid hc4
   clear hbd hc4
   go_wp2_with fail
   go_region_law (first
    |(go_simp;go_at_call 94;refine(CS.out _ _ _ HC4.out).mono ?_;rintro e w2 ⟨⟨C2,v2,L2⟩,⟨hr2,⟨A2,c2,e2⟩,hl2,htk⟩,hc5⟩;dsimp only at hr2 e2 hl2 htk hc5;obtain⟨m2,hm2⟩:∃m,L2.length=m:=⟨_,rfl⟩;rw[hm2] at e2 hl2;subst hr2;obtain⟨k1,k2,k3,k4,k5,k6,k7,k8,k9,kx⟩:=hc5.handsB (t:=t) (by rw[HNT.out];exact HT.out) HM1.out hm2 (show((S2.hnd t (.slice A m1 c') L1).cac t C2).hv t=.slice A m1 c' from upd_at) (show((S2.hnd t (.slice A m1 c') L1).cac t C2).H t=L1 from upd_at) e2 (by omega);subst e2;have K1:=Lib.hid k1;have K2:=Lib.hid k2;have K3:=Lib.hid k3;have K4:=Lib.hid k4;have K5:=Lib.hid k5;have K8:=Lib.hid k8;have K9:=Lib.hid k9;have KX:=Lib.hid kx;have HM2:=Lib.hid hm2;have HTK:=Lib.hid htk;have HC5:=Lib.hid hc5;clear k1 k2 k3 k4 k5 k8 k9 kx hm2 htk hc5)
    |(go_loud (refine step_appH (A:=A) (n:=m1) (c:=c') (B:=A2) (m:=m2) (cB:=c2) (olds:=cellsH L1) (news:=cellsH L2) rfl (.tmp 291) (.tmp 296) rfl rfl rfl K1.out K2.out K8.out K3.out K4.out K9.out K5.out (by omega) ?_);intro A' c'' w' hA;obtain⟨q1,q2,q3⟩:=KX.out A' c'' w' hA))
   all_goals
    have HR2:=Lib.hid (CR.out _ _ _ q3)
    rw[show((((S2.hnd t (.slice A m1 c') L1).cac t C2).hnd t (.slice A' (m1+m2) c'') (L1++L2)).H t)=L1++L2 from upd_at] at HR2
    generalize hV:(if L1++L2=[] then Ph.none.val else Ph.back.val)=V at HR2
    have HV:=Lib.hid hV
    obtain⟨r0,f0⟩:=bxCell q3 (mcm _ (mcs ..)) 0 rfl
    obtain⟨r1,f1⟩:=bxCell q3 (mcm _ (mcs ..)) 1 rfl
    have HBR:=Lib.hid (q3.res (b:=w.heap.size) (mcm _ (mcs ..)) (Nat.le_refl _) HB3.out [] (fun x hx=>by cases hx) 0 0)
    clear q1 q2 q3 hA hV p4 p5 CR CS
    go_wp2_with (first|(go_at_call 95;with_reducible refine Still.use HR2.out ?_))
    refine bodyPost_ret (results_pr rfl rfl (bxCell HBR.out (mcs ..) 0 rfl).1 (bxCell HBR.out (mcs ..) 1 rfl).1) rfl ?_
    refine⟨C2,.slice A' (m1+m2) c'',L1++L2,fun j y=>?_,?_,?_,?_⟩
    ·have h1:ctok C2 j y+htok L2 j y=ctok (S2.C t) j y:=HTK.out j y
     have h2:=HS2.out.2.2.2.2 j y
     rw[HS2.out.2.2.1] at h1
     rw[htok_append]
     omega
    ·rw[List.length_append,HM1.out,HM2.out];omega
    ·have:=HBR.out.turns
     rw[HS.hnd_cac_hnd,HS2.out.1] at this
     exact this
    ·rw[<-HV.out];rfl
  |false=>
   have hbd2:=hbd.still NoL.framed ((Only.refl [] wO))
   have HR2:=Lib.hid (CR.out _ _ _ hbd)
   rw[show(S2.hnd t (.slice A m1 c') L1).H t=L1 from upd_at] at HR2
   generalize hV:(if L1=[] then Ph.none.val else Ph.back.val)=V at HR2
   have HV:=Lib.hid hV
   obtain⟨r0,f0⟩:=bxCell hbd (mcm _ (mcs ..)) 0 rfl
   obtain⟨r1,f1⟩:=bxCell hbd (mcm _ (mcs ..)) 1 rfl
   have HBR:=Lib.hid (hbd.res (b:=w.heap.size) (mcm _ (mcs ..)) (Nat.le_refl _) HB3.out [] (fun x hx=>by cases hx) 0 0)
   clear hbd hV CR CS hbd2
   go_wp2_with (first|(go_at_call 95;with_reducible refine Still.use HR2.out ?_))
   refine bodyPost_ret (results_pr rfl rfl (bxCell HBR.out (mcs ..) 0 rfl).1 (bxCell HBR.out (mcs ..) 1 rfl).1) rfl ?_
   refine⟨C',.slice A m1 c',L1,HS2.out.2.2.2.2,?_,?_,?_⟩
   ·rw[HM1.out];omega
   ·have:=HBR.out.turns
    rw[HS2.out.2.1,HSC.out] at this
    exact this
   ·rw[<-HV.out];rfl
 ·have HZ:Hid (0<l.length):=Nat.pos_of_ne_zero hz
  have HBN:=Lib.hid hbd
  have HX:=Lib.hid hx
  have HL1:=Lib.hid hl1
  generalize hlm:l.length=m at *
  have HLM:=Lib.hid hlm
  have d1:decide ((0:Int)<m)=true:=decide_eq_true (by omega)
  have d1':decide (0<m)=true:=decide_eq_true (by omega)
  clear hbd hx hlm hl1 hz
  go_wp2_with fail
  refine(CH.out _ _ _ _ _ (by rw[HLM.out];exact HZ.out) (by rw[HLM.out];exact HL1.out) HBN.out).mono ?_
  rintro r wM ⟨rfl,v',hbd⟩
  obtain⟨L1,hL1⟩:∃L:List HB,L=[⟨k,.slice Av m cv,l⟩]:=⟨_,rfl⟩
  obtain⟨S2,hS2⟩:∃S2:HS,S2=(S.cac t C').hnd t v' ([b]++[⟨k,.slice Av m cv,l⟩]):=⟨_,rfl⟩
  replace hbd:Ctx P S2 w FP NoL [(b1,214,#[.int .i64 k,.int .i64 a]),(w.heap.size,66,#[.int .i64 0,.int .i64 0])] wM:=by rw[hS2,<-hH];exact hbd
  have hH2:S2.H t=b::L1:=by rw[hS2,hL1];exact upd_at
  obtain⟨SC,hSC⟩:∃S1:HS,S1=S.cac t C':=⟨_,rfl⟩
  have HSC:=Lib.hid hSC
  have HS2:Hid ((∀C2 v2 L2,(S2.cac t C2).hnd t v2 L2=(S.cac t C2).hnd t v2 L2)/\(∀v2 L2,S2.hnd t v2 L2=SC.hnd t v2 L2)/\S2.C t=C'/\L1.length<=1/\∀j y,ctok C' j y+htok L1 j y<=ctok (S.C t) j y+one1 k a j y):=by
   refine⟨fun C2 v2 L2=>?_,fun v2 L2=>?_,?_,?_,fun j y=>?_⟩
   ·rw[hS2,HS.hnd_cac_hnd,HS.cac_cac]
   ·rw[hS2,HS.hnd_hnd,hSC]
   ·rw[hS2];exact upd_at
   ·rw[hL1];exact Nat.le_refl _
   ·rw[hL1]
    have:=HX.out j y
    simp only[htok,Nat.add_zero]
    by_cases e:j=(k:Int)
    ·rw[if_pos e] at this;rw[if_pos e.symm];exact this
    ·rw[if_neg e] at this;rw[if_neg (fun h=>e h.symm)];exact this
  clear hL1 hS2 hSC HX HLM HL1 HBN CH
  obtain⟨g,off,c,A,c',t1,t2,t3,t4,hc3⟩:=hbd.handsT (by rw[HNT.out];exact HT.out) hH2
  have HT2:=Lib.hid t2
  have HC3:=Lib.hid hc3
  have p0:=(thCells (t:=t) (by rw[HNT.out];exact HT.out) hbd).1
  have p3:=(thCells (t:=t) (by rw[HNT.out];exact HT.out) hc3).1
  generalize hm1:L1.length=m1 at *
  have HM1:=Lib.hid hm1
  clear hm1 t1 t2 hc3 hbd hH2
  go_wp2_with (refine wpList_slice_from2 rfl 114 _ _ rfl 205 elem_bts Tryz.underlying114 i0 hi hz1 (some ⟨g,off,none⟩) (m1+1) c 1 rfl rfl (by omega) ?_;intro vs hvs;rw[HT2.out] at hvs;subst hvs)
  refine(CO.out _ _ _ HC3.out).mono ?_
  rintro r wO ⟨ov,rfl,hoO⟩
  have hbd:=HC3.out.still NoL.framed hoO
  have hm1:m1<=1:=HM1.out▸HS2.out.2.2.2.1
  clear HC3 HT2 CO p0 p3 t3 t4
  cases ov with
  |true=>
   have hc4:=hbd.still NoL.framed ((Only.refl [] wO).drew)
   obtain⟨p4,p5,_⟩:=thCells (t:=t) (by rw[HNT.out];exact HT.out) hc4
   rw[show(S2.hnd t (.slice A m1 c') L1).hv t=.slice A m1 c' from upd_at] at p5
   have HC4:=Lib.hid hc4
   clear hbd hc4
   go_wp2_with fail
   go_region_law (first
    |(go_simp;go_at_call 94;refine(CS.out _ _ _ HC4.out).mono ?_;rintro e w2 ⟨⟨C2,v2,L2⟩,⟨hr2,⟨A2,c2,e2⟩,hl2,htk⟩,hc5⟩;dsimp only at hr2 e2 hl2 htk hc5;obtain⟨m2,hm2⟩:∃m,L2.length=m:=⟨_,rfl⟩;rw[hm2] at e2 hl2;subst hr2;obtain⟨k1,k2,k3,k4,k5,k6,k7,k8,k9,kx⟩:=hc5.handsB (t:=t) (by rw[HNT.out];exact HT.out) HM1.out hm2 (show((S2.hnd t (.slice A m1 c') L1).cac t C2).hv t=.slice A m1 c' from upd_at) (show((S2.hnd t (.slice A m1 c') L1).cac t C2).H t=L1 from upd_at) e2 (by omega);subst e2;have K1:=Lib.hid k1;have K2:=Lib.hid k2;have K3:=Lib.hid k3;have K4:=Lib.hid k4;have K5:=Lib.hid k5;have K8:=Lib.hid k8;have K9:=Lib.hid k9;have KX:=Lib.hid kx;have HM2:=Lib.hid hm2;have HTK:=Lib.hid htk;have HC5:=Lib.hid hc5;clear k1 k2 k3 k4 k5 k8 k9 kx hm2 htk hc5)
    |(go_loud (refine step_appH (A:=A) (n:=m1) (c:=c') (B:=A2) (m:=m2) (cB:=c2) (olds:=cellsH L1) (news:=cellsH L2) rfl (.tmp 291) (.tmp 296) rfl rfl rfl K1.out K2.out K8.out K3.out K4.out K9.out K5.out (by omega) ?_);intro A' c'' w' hA;obtain⟨q1,q2,q3⟩:=KX.out A' c'' w' hA))
   all_goals
    have HR2:=Lib.hid (CR.out _ _ _ q3)
    rw[show((((S2.hnd t (.slice A m1 c') L1).cac t C2).hnd t (.slice A' (m1+m2) c'') (L1++L2)).H t)=L1++L2 from upd_at] at HR2
    generalize hV:(if L1++L2=[] then Ph.none.val else Ph.back.val)=V at HR2
    have HV:=Lib.hid hV
    obtain⟨r0,f0⟩:=bxCell q3 (mcm _ (mcs ..)) 0 rfl
    obtain⟨r1,f1⟩:=bxCell q3 (mcm _ (mcs ..)) 1 rfl
    have HBR:=Lib.hid (q3.res (b:=w.heap.size) (mcm _ (mcs ..)) (Nat.le_refl _) HB3.out [] (fun x hx=>by cases hx) 0 0)
    clear q1 q2 q3 hA hV p4 p5 CR CS
    go_wp2_with (first|(go_at_call 95;with_reducible refine Still.use HR2.out ?_))
    refine bodyPost_ret (results_pr rfl rfl (bxCell HBR.out (mcs ..) 0 rfl).1 (bxCell HBR.out (mcs ..) 1 rfl).1) rfl ?_
    refine⟨C2,.slice A' (m1+m2) c'',L1++L2,fun j y=>?_,?_,?_,?_⟩
    ·have h1:ctok C2 j y+htok L2 j y=ctok (S2.C t) j y:=HTK.out j y
     have h2:=HS2.out.2.2.2.2 j y
     rw[HS2.out.2.2.1] at h1
     rw[htok_append]
     omega
    ·rw[List.length_append,HM1.out,HM2.out];omega
    ·have:=HBR.out.turns
     rw[HS.hnd_cac_hnd,HS2.out.1] at this
     exact this
    ·rw[<-HV.out];rfl
  |false=>
   have hbd2:=hbd.still NoL.framed ((Only.refl [] wO))
   have HR2:=Lib.hid (CR.out _ _ _ hbd)
   rw[show(S2.hnd t (.slice A m1 c') L1).H t=L1 from upd_at] at HR2
   generalize hV:(if L1=[] then Ph.none.val else Ph.back.val)=V at HR2
   have HV:=Lib.hid hV
   obtain⟨r0,f0⟩:=bxCell hbd (mcm _ (mcs ..)) 0 rfl
   obtain⟨r1,f1⟩:=bxCell hbd (mcm _ (mcs ..)) 1 rfl
   have HBR:=Lib.hid (hbd.res (b:=w.heap.size) (mcm _ (mcs ..)) (Nat.le_refl _) HB3.out [] (fun x hx=>by cases hx) 0 0)
   clear hbd hV CR CS hbd2
   go_wp2_with (first|(go_at_call 95;with_reducible refine Still.use HR2.out ?_))
   refine bodyPost_ret (results_pr rfl rfl (bxCell HBR.out (mcs ..) 0 rfl).1 (bxCell HBR.out (mcs ..) 1 rfl).1) rfl ?_
   refine⟨C',.slice A m1 c',L1,HS2.out.2.2.2.2,?_,?_,?_⟩
   ·rw[HM1.out];omega
   ·have:=HBR.out.turns
    rw[HS2.out.2.1,HSC.out] at this
    exact this
   ·rw[<-HV.out];rfl
def Kp (T:List Z.Cl) (who:Who) (tk:Hd->Int->Int->Nat):Prop:=∀h,Keeps T who h (tk h)
theorem Kp.hand {T:List Z.Cl} (hT:Z.isTable T) {who:Who} {tk tk':Hd->Int->Int->Nat} (hk:Kp T who tk) {h1 h2:Hd} (hne:h1≠h2) (d:Int->Int->Nat) (e1:∀k a,tk' h1 k a+d k a<=tk h1 k a) (e2:∀k a,tk' h2 k a<=tk h2 k a+d k a) (e3:∀h,h≠h1->h≠h2->∀k a,tk' h k a<=tk h k a):Kp T (ren (Go.Proofs.YtcidjimefnhacaaGreatDoor.hand h1 h2 d) who) tk':=fun h=>by
 obtain⟨a1,a2⟩:=Keeps.hand hT hne (hk h1) (hk h2) e1 e2
 by_cases hh1:h=h1
 ·rw[hh1];exact a1
 ·by_cases hh2:h=h2
  ·rw[hh2];exact a2
  ·exact((hk h).ren (fun k x _=>hand_ne hh1)).less (e3 h hh1 hh2)
theorem Kp.one {T:List Z.Cl} (hT:Z.isTable T) {who:Who} {tk:Hd->Int->Int->Nat} (hk:Kp T who tk) {h1 h2:Hd} {k1 k2 a:Int} (x1:0<tk h1 k1 a) (x2:0<tk h2 k2 a):h1=h2/\k1=k2:=by
 obtain⟨_,p1,p2,p3⟩:=hk h1 k1 a x1
 obtain⟨_,q1,q2,q3⟩:=hk h2 k2 a x2
 have s1:=szK_pos hT p1 p2
 have s2:=szK_pos hT q1 q2
 have:=p3.eq q3 a (Int.le_refl _) (by omega) (Int.le_refl _) (by omega)
 injection this with e1 e2 _
 exact⟨e1,e2⟩
theorem InvL.ren {P:Hp} {R:Nat->Int->Option Int} {lv:Int->Option Bk} {who:Who} (h:InvL P R lv who) {f:Ow->Ow} (hf:TokRen f):InvL P R lv (Go.Proofs.YtcidjimefnhacaaGreatDoor.ren f who):=⟨h.sml,fun a b hb hc=>by
 obtain⟨h1,h2,h3,A,s,p,h4,h5,h6,h7,h8⟩:=h.lrg a b hb hc
 exact⟨h1,h2,h3,A,s,p,h4,h5,h6,h7,h8.tokRen hf (by simp)⟩⟩
theorem Inv.others {P:Hp} {S S':HS} {who who':Who} (h:Inv P S who) {t:Nat} {p':Ph} (hph:S'.ph=upd S.ph t p') (hp:PhOk P S' who' t p') (hH:∀u,u≠t->S'.H u=S.H u) (hlv:∀u a,u<P.nt->u≠t->S.ph u=.find a->S.lv a≠none->S'.lv a≠none)
 (hg:∀u A s p,u≠t->A<P.na->1<=p->S.R A s=some p->Has who (.giv u A s) (s*256) (p*256)->S'.R A s=some p/\Has who' (.giv u A s) (s*256) (p*256)) (hfn:∀a,p'≠ .find a):
 (∀u,u<P.nt->PhOk P S' who' u (S'.ph u))/\∀u v a,u<P.nt->v<P.nt->S'.ph u=.find a->S'.ph v=.find a->u=v:=by
 constructor
 ·intro u hu
  rw[hph]
  by_cases e:u=t
  ·subst e;rw[upd_at];exact hp
  ·rw[upd_ne e]
   have h1:=h.phs u hu
   have h2:=hH u e
   cases hpu:S.ph u with
   |none=>rw[hpu] at h1;exact h2.trans h1
   |take k=>rw[hpu] at h1;exact⟨h1.1,h2.trans h1.2⟩
   |transfer k n=>rw[hpu] at h1;exact⟨h1.1,h1.2.1,h1.2.2.1,h2.trans h1.2.2.2⟩
   |central k n=>rw[hpu] at h1;exact⟨h1.1,h1.2.1,h1.2.2.1,h2.trans h1.2.2.2⟩
   |grow k n=>rw[hpu] at h1;exact⟨h1.1,h1.2.1,h1.2.2.1,h2.trans h1.2.2.2⟩
   |fill=>rw[hpu] at h1;exact h1.imp (fun b hb=>h2.trans hb)
   |large n=>rw[hpu] at h1;exact⟨h1.1,h1.2.1,h2.trans h1.2.2⟩
   |find a=>rw[hpu] at h1;exact⟨h2.trans h1.1,hlv u a hu e hpu h1.2⟩
   |put k a=>rw[hpu] at h1;exact⟨h1.1,h1.2.imp (fun v hv=>h2.trans hv)⟩
   |back=>rw[hpu] at h1;show S'.H u≠ [];rw[h2];exact h1
   |give s A=>
    rw[hpu] at h1
    obtain⟨a1,a2,a3,a4,A2,p,a5,a6,a7,a8⟩:=h1
    obtain⟨b1,b2⟩:=hg u A2 s p e a5 a6 a7 a8
    exact⟨h2.trans a1,a2,a3,a4,A2,p,a5,a6,b1,b2⟩
   |drain=>rw[hpu] at h1;exact h2.trans h1
 ·intro u v a hu hv h1 h2
  rw[hph] at h1 h2
  by_cases e1:u=t
  ·subst e1;rw[upd_at] at h1;exact absurd h1 (hfn a)
  ·by_cases e2:v=t
   ·subst e2;rw[upd_at] at h2;exact absurd h2 (hfn a)
   ·rw[upd_ne e1] at h1;rw[upd_ne e2] at h2
    exact h.fnd u v a hu hv h1 h2
theorem Inv.tokStep {P:Hp} {S S':HS} {who:Who} (h:Inv P S who) {f:Ow->Ow} (hf:TokRen f) {t:Nat} {p':Ph} (hph:S'.ph=upd S.ph t p') (hc:S'.sp=S.sp/\S'.M=S.M/\S'.B=S.B/\S'.L=S.L/\S'.R=S.R) (hk:Kp P.T (ren f who) (tkH P S')) (hl:InvL P S.R S'.lv (ren f who))
 (htr:∀a k,a<P.na->k<P.T.length->∀b∈S'.X a k,0<b.2.length/\b.2.length<=256) (hok:∀u,u<P.nt->∀b∈S'.H u,b.ok P.T.length) (hp:PhOk P S' (ren f who) t p') (hH:∀u,u≠t->S'.H u=S.H u) (hlv:∀u a,u<P.nt->u≠t->S.ph u=.find a->S.lv a≠none->S'.lv a≠none) (hfn:∀a,p'≠ .find a):Inv P S' (ren f who):=by
 obtain⟨c1,c2,c3,c4,c5⟩:=hc
 obtain⟨q1,q2⟩:=h.others (who':=ren f who) hph hp hH hlv (fun u A s p _ _ _ h1 h2=>⟨by rw[c5];exact h1,h2.tokRen hf (by simp)⟩) hfn
 exact⟨by rw[c1,c2,c3,c4,c5];exact h.c.ren hf,hk,by rw[c5];exact hl,htr,hok,q1,q2⟩
theorem ltok_put {lv:Int->Option Bk} {a:Int} {b:Bk} (hn:lv a=none) (k x:Int):ltok (lvPut lv a b) k x=ltok lv k x+if x=a/\b.cls=k/\0<=k then 1 else 0:=by
 unfold ltok lvPut
 by_cases e:x=a
 ·rw[e,hn];simp
 ·rw[if_neg e,if_neg (fun h=>e h.1)];rfl
theorem ltok_del {lv:Int->Option Bk} {a:Int} {b:Bk} (hb:lv a=some b) (k x:Int):ltok (lvDel lv a) k x+(if x=a/\b.cls=k/\0<=k then 1 else 0)=ltok lv k x:=by
 unfold ltok lvDel
 by_cases e:x=a
 ·rw[e,hb];simp
 ·rw[if_neg e,if_neg (fun h=>e h.1)];rfl
theorem Inv.notLive {P:Hp} (hT:Z.isTable P.T) {S:HS} {who:Who} (h:Inv P S who) {hd:Hd} (hne:hd≠ .liv) {k a:Int} (ha:0<tkH P S hd k a):S.lv a=none:=by
 cases hb:S.lv a with
 |none=>rfl
 |some b=>
  exfalso
  obtain⟨_,p1,p2,p3⟩:=h.tk hd k a ha
  have s1:=szK_pos hT p1 p2
  rcases Int.lt_or_le b.cls 0 with hc|hc
  ·obtain⟨_,_,_,A,s,p,_,e1,e2,_,e3⟩:=h.l.lrg a b hb hc
   have h1:=(h.c.run A s p (by assumption) e2).1
   have:=p3.eq e3 a (Int.le_refl _) (by omega) (Int.le_refl _) (by omega)
   cases this
  ·have hl:0<tkH P S .liv b.cls a:=by
    show 0<ltok S.lv b.cls a
    unfold ltok
    rw[hb]
    simp[hc]
   exact hne (Kp.one hT h.tk ha hl).1
theorem OSt.head {v:Value} {x:Int} {xs:List Int} {w:World} {fs:List Nat} (h:OSt v (x::xs) w fs):∃b off c,v=.slice (some ⟨b,off,none⟩) (xs.length+1) c/\w.cell? ⟨b,off,none⟩=some (.int .i64 x):=by
 rcases h.1 with ⟨e,_⟩|⟨_,b,_,⟨off,c,h1,h2,h3⟩,_⟩
 ·cases e
 ·exact⟨b,off,c,by rw[h1];simp,h3 0 (Nat.succ_pos _)⟩
theorem OSt.head_at {b off n c:Nat} {x:Int} {xs:List Int} {w:World} {fs:List Nat} (h:OSt (.slice (some ⟨b,off,none⟩) n c) (x::xs) w fs):w.cell? ⟨b,off,none⟩=some (.int .i64 x):=by
 obtain⟨b',off',c',e,h1⟩:=h.head
 injection e with e _ _
 injection e with e
 rw[e];exact h1
theorem sliced_walk (A:Option Addr) (m c:Nat):Value.slice (if c=1 then A else Option.map (fun x=>{block:=x.block,off:=x.off+1}) A) (m-1) (c-1)=sliced A 1 m c 1:=by
 unfold sliced
 have e:(fun x:Addr=>x.add (1*1))=fun x=>{block:=x.block,off:=x.off+1}:=by
  funext x
  simp[Addr.add]
 rw[e]
set_option maxRecDepth 100000 in
set_option maxHeartbeats 8000000 in
theorem hsFill_at {P:Hp} {S:HS} {w:World} {FP:List Nat} (h:HSys P S w FP) {t:Nat} (ht:t<P.nt) {b:HB} {x:Int} {xs:List Int} (hH:S.H t=[b]) (hbo:b.o=x::xs) (hok:(0<=x/\x<65536)/\∃a,a<P.na/\Ownd S a (x/256)):
 Calls Tryz.prog 77 #[.pointer (some ⟨P.h,0,none⟩),.int .i64 t,Ph.fill.val] w fun e w'=>∃(C':Int->Option CE) (ar:Nat),(∀j y,ctok C' j y<=ctok (S.C t) j y+(if j=(b.k:Int) then xs.count y else 0))/\ar<P.na/\Turns (HSys P {(S.hnd t (.slice none 0 0) []).cac t C' with lv:=lvPut S.lv x ⟨(Z.cAt P.T b.k).s,b.k,ar⟩}) w FP w'/\e=.returned (.tuple #[.nilIface,.agg #[.int .i64 x,.int .i64 0]]):=by
 have HFORM:Hid (∃bb of c,b.v=.slice (some ⟨bb,of,none⟩) (xs.length+1) c/\b.ok P.T.length):=by
  obtain⟨f,hf,_⟩:=h.turn (.han t)
  have h8:=hf.1 ht
  rw[hH] at h8
  obtain⟨b0,_,q,_⟩:=h8.uncons2
  rw[hbo] at q
  obtain⟨bb,of,c,e,_⟩:=q.head
  exact⟨bb,of,c,e,h8.ok b (by simp)⟩
 obtain⟨bb,of,cv,ev,hbok⟩:=HFORM.out
 obtain⟨Av,hAv⟩:∃A:Option Addr,A=some ⟨bb,of,none⟩:=⟨_,rfl⟩
 have HAV:=Lib.hid hAv
 have HBO:=Lib.hid hbo
 rw[<-hAv] at ev
 clear hAv HFORM
 have hk:=hbok.k
 have hl1:=hbok.l1
 rw[hbo] at hl1
 simp at hl1
 have c0:=(Ctx.start h).push NoL.framed #[.int .i64 0,.int .i64 0] 66
 have HC0:=Lib.hid c0
 have HT:=Lib.hid ht
 obtain⟨FP0,hs0⟩:=c0.sys_
 have z8:=hs0.hcells.c8
 obtain⟨n1,n2,n3,n4,n5,n6,n7,n8,n9⟩:=h.nums
 have HB3:=Lib.hid h.big
 have HK:=Lib.hid hk
 have CT:=Lib.hid (fun (W:World) (bx:List (Nat×TypeId×Array Value)) (u:Value) (hu:u=sliced Av 1 (xs.length+1) cv 1) (hc:Ctx P (S.hnd t (.slice none 0 0) []) w FP (OSt b.v b.o) bx W)=>hc.callB (OSt.framed b.v b.o) (fun FPc fs hs hv hus _=>hcFill_at hs ht hk (u:=u) (xs:=xs) (us:=fs) (by rw[hu];have:=hv.1;rw[ev,hbo] at this;have:=this.drop (k:=1) (by simp);simpa using this) (fun b' hb'=>⟨hus b' hb',hv.2 b' hb'⟩) (by omega)))
 have CB:=Lib.hid (fun (W:World) (bx:List (Nat×TypeId×Array Value)) (C':Int->Option CE) (hc:Ctx P ((S.hnd t (.slice none 0 0) []).cac t C') w FP (OSt b.v b.o) bx W)=>hc.call (α:=Nat) (R:=fun ar e=>e=.returned (.tuple #[.nilIface,.agg #[.int .i64 x,.int .i64 0]])/\ar<P.na) (S':=fun ar=>{(S.hnd t (.slice none 0 0) []).cac t C' with lv:=lvPut S.lv x ⟨(Z.cAt P.T b.k).s,b.k,ar⟩}) (OSt.framed b.v b.o) (fun FPc hs=>(hborn_at hs x (Z.cAt P.T b.k).s b.k hok.1 hok.2).mono (fun e w' ⟨ar,h1,h2,h3⟩=>⟨ar,⟨h1,h2⟩,h3⟩)))
 have CW:=Lib.hid (fun (W:World) (hc:Ctx P S w FP NoL [(w.heap.size,66,#[.int .i64 0,.int .i64 0])] W)=>hc.sys_.elim (fun FPd hs=>hown_at hs ht))
 have hown:t%P.na<P.na:=Nat.mod_lt _ (by omega)
 clear h c0 hs0
 clear hok hbok
 generalize hsz:(Z.cAt P.T b.k).s=sz at *
 have HSZ:=Lib.hid hsz
 clear hsz
 generalize hnt:P.nt=nt at *
 have HNT:=Lib.hid hnt
 generalize hna:P.na=na at *
 have HNA:=Lib.hid hna
 generalize hq:t%na=q at *
 clear hnt hna hq
 have hta0:=fun W=>ta_no (T:=191) (T':=199) Tryz.underlying191 rfl (by decide) z_take (.agg #[]) W
 have hta1:=fun W=>ta_no (T:=194) (T':=199) Tryz.underlying194 rfl (by decide) z_transfer (.agg #[]) W
 have hta2:=fun W=>ta_no (T:=200) (T':=199) Tryz.underlying200 rfl (by decide) z_central (.agg #[]) W
 have hta3:=fun W=>ta_no (T:=202) (T':=199) Tryz.underlying202 rfl (by decide) z_grow (.agg #[]) W
 have hta:=fun W=>ta_yes Tryz.underlying199 rfl (.agg #[]) W
 unfold Ph.val
 go_enter Tryz.func77,Tryz.ntmps77
 go_wp2_with fail
 have hbd:=HC0.out.still NoL.framed ((Only.refl [] _).drew)
 go_region_held3 (fun U=>U.cell? ⟨P.h,7,none⟩=some (.slice (some ⟨P.gA,0,none⟩) na P.cA)/\U.cell? ⟨P.gA,q,none⟩=some (.pointer (some ⟨P.ar q,0,none⟩)))
  (exact stCells HNA.out hown (by assumption))
  (first
   |(go_at_call 81;with_reducible refine Still.use (CW.out _ hbd) ?_))
 generalize (w.alloc (.cells #[.int .i64 0,.int .i64 0] 66)).drew=W1 at *
 clear CW HC0 z8
 have HB1:Hid (¬W1.heap.size=w.heap.size):=Nat.ne_of_gt (hbd.box (x:=(w.heap.size,66,#[.int .i64 0,.int .i64 0])) (by simp)).lt
 replace hbd:=hbd.push NoL.framed #[] 199
 have HWB:Hid (w.heap.size<=W1.heap.size):=by
  have:=(hbd.box (x:=(w.heap.size,66,#[.int .i64 0,.int .i64 0])) (mcm _ (mcs ..))).lt
  simp at this
  show w.heap.size<=W1.heap.size
  omega
 generalize hb1:W1.heap.size=b1 at *
 have hbd2:=hbd.push NoL.framed #[.int .i64 (b.k:Nat),.slice Av (xs.length+1) cv] 205
 obtain⟨p0,p1,p2⟩:=thCells (t:=t) (by rw[HNT.out];exact HT.out) hbd
 obtain⟨f,hf,⟨gTf,hhf⟩,gTlt,hgo⟩:=hbd2.handsG (OSt.framed b.v b.o) (by rw[HNT.out];exact HT.out)
 rw[hH] at hf
 obtain⟨b0,q1,q2,g,off,c,q3,q4,_⟩:=hf.uncons2
 rw[q3] at p1
 obtain⟨_,p3,p4⟩:=thCells (t:=t) (by rw[HNT.out];exact HT.out) hbd2
 rw[q3] at p3
 obtain⟨f1,hf1,_⟩:=hbd.handsG (Sn:=OSt b.v b.o) (OSt.framed b.v b.o) (by rw[HNT.out];exact HT.out)
 rw[hH] at hf1
 obtain⟨_,_,_,g1,off1,c1,q3',_,q5,q6,_⟩:=hf1.uncons2
 rw[q3] at q3'
 injection q3' with e1 _ e3
 injection e1 with e1
 injection e1 with e1 e2 _
 subst e1 e2 e3
 rw[ev] at q6
 have HC2:=Lib.hid (hgo (.slice none 0 0) [] _ [] [b0] (Only.refl _ _) (HaSt.nil _ _) (fun b' hb'=>by cases hb') q2 (fun b' hb'=>by
  obtain rfl:=List.mem_singleton.1 hb'
  exact⟨q1,by simp⟩))
 have HEV:=Lib.hid ev
 clear hbd hbd2 hgo q1 q2 q3 hf hf1 ev gTlt gTf hhf
 generalize hm:xs.length+1=m at *
 have HM:=Lib.hid hm
 have hm1:(1:Int)<=(m:Int):=by omega
 have hm0:(0:Int)<(m:Int):=by omega
 have hm2:0<m:=by omega
 obtain⟨A2,hA2⟩:∃A2,(if cv=1 then Av else Option.map (fun x=>{block:=x.block,off:=x.off+1}) Av)=A2:=⟨_,rfl⟩
 have HSW:=Lib.hid ((sliced_walk Av m cv).symm.trans (by rw[hA2]))
 clear hm
 go_wp2_with fail
 have hbd:=HC2.out
 rw[show(W1.alloc (.cells #[] 199)).heap.size=b1+1 by simp[hb1]] at hbd
 clear HC2 p0 p1 p2 p3 p4 q5 q6
 generalize ((W1.alloc (.cells #[] 199)).alloc (.cells #[.int .i64 (b.k:Nat),.slice Av m cv] 205)).setCell ⟨P.gT,t*3+1,none⟩ (.slice none 0 0)=W3 at *
 replace hbd:=hbd.still (OSt.framed _ _) ((Only.refl [] W3).drew)
 go_region_held3 (fun U=>U.cell? ⟨P.gT,t*3,none⟩=some (.pointer (some ⟨P.cq t,0,none⟩))/\U.cell? ⟨b1+1,0,none⟩=some (.int .i64 (b.k:Nat))/\U.cell? ⟨b1+1,1,none⟩=some (.slice Av m cv))
  (exact⟨(thCells (by rw[HNT.out];exact HT.out) hbd).1,(bxCell hbd (mcs ..) 0 rfl).1,(bxCell hbd (mcs ..) 1 rfl).1⟩)
  (first
   |(go_at_call 89;with_reducible refine Calls.mono (CT.out _ _ _ HSW.out.symm hbd) ?_;rintro _ wN ⟨⟨C',er⟩,⟨rfl,hx⟩,hbN⟩;clear hbd;have hbd:=hbN;clear hbN))
 replace hbd:Ctx P ((S.hnd t (.slice none 0 0) []).cac t C') w FP (OSt b.v b.o) [(b1+1,205,#[.int .i64 (b.k:Nat),.slice Av m cv]),(b1,199,#[]),(w.heap.size,66,#[.int .i64 0,.int .i64 0])] wN:=hbd
 have HX:=Lib.hid hx
 clear hx CT hA2 HSW
 obtain rfl:=HAV.out
 have HHD:=Lib.hid (fun (W:World) (S2:HS) (bx:List (Nat×TypeId×Array Value)) (hc:Ctx P S2 w FP (OSt b.v b.o) bx W)=>hc.part.elim (fun fs hp=>(show W.cell? ⟨bb,of,none⟩=some (.int .i64 x) by rw[HEV.out,HBO.out] at hp;exact hp.head_at)))
 have HBX:Hid (∀z∈ [(b1+1,205,#[Value.int .i64 (b.k:Nat),Value.slice (some ⟨bb,of,none⟩) m cv]),(b1,199,#[])],z∈ [(b1+1,205,#[Value.int .i64 (b.k:Nat),Value.slice (some ⟨bb,of,none⟩) m cv]),(b1,199,#[]),(w.heap.size,66,#[.int .i64 0,.int .i64 0])]/\z.1≠w.heap.size):=by
  intro z hz
  rcases List.mem_cons.1 hz with rfl|hz
  ·exact⟨by simp,by have:=HWB.out;show b1+1≠w.heap.size;omega⟩
  ·rw[List.mem_singleton] at hz
   subst hz
   exact⟨by simp,HB1.out⟩
 go_wp2_with fail
 replace hbd:=hbd.still (OSt.framed _ _) ((Only.refl [] wN).drew)
 go_region_held3 (fun U=>U.cell? ⟨P.h,0,none⟩=some (.slice (some P.ta) P.T.length P.tc)/\U.cell? (P.ta.add (b.k*3))=some (.int .i64 sz)/\U.cell? ⟨b1+1,0,none⟩=some (.int .i64 (b.k:Nat))/\U.cell? ⟨b1+1,1,none⟩=some (.slice (some ⟨bb,of,none⟩) m cv)/\U.cell? ⟨bb,of,none⟩=some (.int .i64 x))
  (first
   |exact⟨(tbCells HK.out HSZ.out rfl hbd).1,(tbCells HK.out HSZ.out rfl hbd).2.1,(bxCell hbd (mcs ..) 0 rfl).1,(bxCell hbd (mcs ..) 1 rfl).1,HHD.out _ _ _ hbd⟩
   |exact⟨(tbCells HK.out HSZ.out rfl hbr).1,(tbCells HK.out HSZ.out rfl hbr).2.1,(bxCell hbr (mcm _ (mcs ..)) 0 rfl).1,(bxCell hbr (mcm _ (mcs ..)) 1 rfl).1,HHD.out _ _ _ hbr⟩)
  (first
   |(go_at_call 83;with_reducible refine Calls.mono (CB.out _ _ C' hbd) ?_;rintro _ wM ⟨ar,⟨rfl,har⟩,hbN⟩;clear hbd;have hbd:=hbN;clear hbN;have hbr:=hbd.resF (OSt.framed _ _) (b:=w.heap.size) (mcm _ (mcm _ (mcs ..))) (Nat.le_refl _) HB3.out [(b1+1,205,#[.int .i64 (b.k:Nat),.slice (some ⟨bb,of,none⟩) m cv]),(b1,199,#[])] HBX.out x 0;have r0:=(bxCell hbd (mcm _ (mcm _ (mcs ..))) 0 rfl);have r1:=(bxCell hbd (mcm _ (mcm _ (mcs ..))) 1 rfl);obtain⟨r0,f0⟩:=r0;obtain⟨r1,f1⟩:=r1))
 have HBR:=Lib.hid hbr
 have HAR:=Lib.hid har
 clear hbr hbd har r0 r1 f0 f1
 go_wp2_with fail
 refine bodyPost_ret (results_pr rfl rfl (bxCell HBR.out (mcs ..) 0 rfl).1 (bxCell HBR.out (mcs ..) 1 rfl).1) rfl ?_
 exact⟨C',ar,HX.out,HAR.out,HBR.out.turns,rfl⟩
end Go.Proofs.YtcidjimefnhacaaGreatDoor
