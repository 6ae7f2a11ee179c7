/- TopSchedules, a part of the proof: Us, Uf, Ug, Ut. -/
import Derived.Test.YtcidjimefnhacaaGreatDoorM39
import Derived.Test.YtcidjimefnhacaaGreatDoorM47
import Derived.Test.YtcidjimefnhacaaGreatDoorM20
import Derived.Maps.AppendAt
import Derived.Deep.DeepCutAuto
import Derived.Test.YtcidjimefnhacaaGreatDoorM46
set_option linter.unusedVariables false
set_option linter.unusedSimpArgs false
namespace Go.Proofs.YtcidjimefnhacaaGreatDoor
open Go.RowKit
theorem cells_new3 (w:World) (t:TypeId) (x0 x1 x2:Value):∀j u,[x0,x1,x2][j]? =some u->(w.alloc (.cells #[x0,x1,x2] t)).cell? ((⟨w.heap.size,0,none⟩:Addr).add j)=some u:=by
 intro j u hj
 rw[Addr.add_lit,Nat.zero_add]
 exact(Blk.new w t _).cell_ j (by simpa using hj)
theorem info_pa:(Tryz.prog.info? 108).map (fun i=>(i.zero,i.size,i.bytes))=some (some (.pointer none),1,8):=by kernel_rfl
theorem info_th:(Tryz.prog.info? 118).map (fun i=>(i.zero,i.size,i.bytes))=some (some (.agg #[.pointer none,.slice none 0 0,.nilIface]),3,48):=by kernel_rfl
set_option maxRecDepth 100000 in
set_option maxHeartbeats 16000000 in
theorem hnew_at {W:World} (hE:V.Env W) {g n c:Nat} {T:List Z.Cl} (hT:Z.isTable T) (hR:Z.ReadsC W (some ⟨g,0,none⟩) n T) {na nt:Nat} {bud room:Int} (h1:1<=na/\na<=4) (h2:1<=nt/\nt<=4) (h3:0<=bud/\bud<=65536) (h4:0<=room/\room<=8):Calls Tryz.prog 23 #[.slice (some ⟨g,0,none⟩) n c,.agg #[.int .i64 256,.int .i64 na,.int .i64 nt,.int .i64 bud,.int .i64 room]] W fun e W'=>
 ∃P:Hp,e=.returned (.tuple #[.pointer (some ⟨P.h,0,none⟩),.int .i64 0])/\P.T=T/\P.na=na/\P.nt=nt/\P.bud=bud/\P.room=room/\Only [] W W'/\∃FP,HSys P (HS0 fun _=>.slice none 0 0) W' FP/\∀b∈FP,W.heap.size<=b:=by
 have hl:=hR.1
 have hn40:n<=40:=by have:=hT.2.1;omega
 have hn1:0<n:=by have:=hT.1;omega
 have CV:=Lib.hid (fun W' ho=>by have:=Z.Valid_any W' (some ⟨g,0,none⟩) n c T (hR.only (w':=W') ho (by simp)) (by omega);rwa[decide_eq_true hT] at this:∀W',Only [] W W'->Grew Tryz.prog 45 #[.slice (some ⟨g,0,none⟩) n c] W' (.bool true))
 have HR:=Lib.hid hR
 have HT:=Lib.hid hT
 have HE:=Lib.hid hE
 have hmm:= @run_makeMap Tryz.prog
 have CH:=Lib.hid (fun W'=>hvalid_at W' na nt bud room ⟨by omega,by omega⟩ ⟨by omega,by omega⟩ h3 h4)
 obtain⟨ia,ia1,ia2,ia3,ia4⟩:=info_parts info_pa
 obtain⟨it,it1,it2,it3,it4⟩:=info_parts info_th
 have h3':=Lib.hid h3
 have h4':=Lib.hid h4
 clear hR hT hE
 go_enter Tryz.func23,Tryz.ntmps23
 go_wp2_with fail
 have hb0:=Blk.new W 27 #[.int .i64 256,.int .i64 na,.int .i64 nt,.int .i64 bud,.int .i64 room]
 have ho0:=(Only.refl [] W).alloc (.cells #[.int .i64 256,.int .i64 na,.int .i64 nt,.int .i64 bud,.int .i64 room] 27)
 generalize W.alloc (.cells #[.int .i64 256,.int .i64 na,.int .i64 nt,.int .i64 bud,.int .i64 room] 27)=Wc at *
 refine Grew.use (CV.out Wc ho0) (fun W1 ho1=>?_)
 have HO1:=Lib.hid (ho0.trans ho1)
 have hb1:=hb0.only ho1 (by simp)
 have x0:=hb1.cell_ 0 rfl
 have x1:=hb1.cell_ 1 rfl
 have x2:=hb1.cell_ 2 rfl
 have x3:=hb1.cell_ 3 rfl
 have x4:=hb1.cell_ 4 rfl
 have HB1:=Lib.hid hb1
 clear hb0 ho0 ho1 hb1
 go_wp2_with fail
 refine Grew.use (CH.out W1) (fun W2 ho2=>?_)
 have HO2:=Lib.hid (HO1.out.trans ho2)
 have hb2:=HB1.out.only ho2 (by simp)
 have HB2:=Lib.hid hb2
 clear x0 x1 x2 x3 x4
 have x0:=hb2.cell_ 0 rfl
 have x1:=hb2.cell_ 1 rfl
 have x2:=hb2.cell_ 2 rfl
 have x3:=hb2.cell_ 3 rfl
 have x4:=hb2.cell_ 4 rfl
 clear ho2 hb2 HB1
 go_wp2_with fail
 have CCL:Hid (∀w',Only [] W2 w'->Calls Tryz.prog 47 #[.slice (some ⟨g,0,none⟩) n c] w' fun e w''=>∃g2 c2,e=.returned (.slice (some ⟨g2,0,none⟩) n c2)/\n<=c2/\w'.heap.size<=g2/\g2<w''.heap.size/\Z.ReadsC w'' (some ⟨g2,0,none⟩) n T/\Only [] w' w''):=fun w' ho=>by
  refine(tclone_at (HR.out.only (HO2.out.trans ho) (by simp)) (by omega) hn1).mono ?_
  rintro r w'' ⟨v,rfl,hown,ho3⟩
  obtain⟨g2,c2,rfl,hc2,hg2,hg2l,hR2⟩:=readsC_own HT.out (by rw[hl];exact hown)
  rw[hl] at hc2 hR2 ⊢
  exact⟨g2,c2,rfl,hc2,hg2,hg2l,hR2,ho3⟩
 have hbd:=HB2.out.drew
 go_region_held3 (fun w'=>w'.cell? ⟨W.heap.size,0,none⟩=some (.int .i64 256)/\w'.cell? ⟨W.heap.size,1,none⟩=some (.int .i64 na)/\w'.cell? ⟨W.heap.size,2,none⟩=some (.int .i64 nt)/\w'.cell? ⟨W.heap.size,3,none⟩=some (.int .i64 bud)/\w'.cell? ⟨W.heap.size,4,none⟩=some (.int .i64 room))
  (refine⟨Blk.cell_ (t:=27) (cs:=#[.int .i64 256,.int .i64 na,.int .i64 nt,.int .i64 bud,.int .i64 room]) ?_ 0 rfl,Blk.cell_ (t:=27) (cs:=#[.int .i64 256,.int .i64 na,.int .i64 nt,.int .i64 bud,.int .i64 room]) ?_ 1 rfl,Blk.cell_ (t:=27) (cs:=#[.int .i64 256,.int .i64 na,.int .i64 nt,.int .i64 bud,.int .i64 room]) ?_ 2 rfl,Blk.cell_ (t:=27) (cs:=#[.int .i64 256,.int .i64 na,.int .i64 nt,.int .i64 bud,.int .i64 room]) ?_ 3 rfl,Blk.cell_ (t:=27) (cs:=#[.int .i64 256,.int .i64 na,.int .i64 nt,.int .i64 bud,.int .i64 room]) ?_ 4 rfl⟩<;>repeat (first|assumption|with_reducible refine Blk.drew ?_ |with_reducible refine Blk.alloc ?_ _))
  (first
   |(go_at_call 47;(with_reducible refine Calls.mono (CCL.out _ ((Only.refl [] W2).drew)) ?_);rintro _ W3 ⟨g2,c2,rfl,hc2,hg2,hg2l,hR2,ho3⟩;replace hbd:=Blk.only (l:=[]) (hbd) ho3 (by simp))
   |(go_at_call 47;(with_reducible refine Calls.mono (CCL.out _ (((Only.refl [] W2).alloc (.map #[] 0)).drew)) ?_);rintro _ W3 ⟨g2,c2,rfl,hc2,hg2,hg2l,hR2,ho3⟩;replace hbd:=Blk.only (l:=[]) (hbd.alloc (.map #[] 0)) ho3 (by simp)))
 all_goals
  have hlt2:=HB2.out.lt
  first
   |(have q:Only [] (W2.alloc (.map #[] 0)).drew W3:=ho3
     have hoH:Only [] W3 (W3.alloc (.cells #[.slice (some ⟨g2,0,none⟩) n c2,.int .i64 256,.int .i64 na,.int .i64 nt,.int .i64 bud,.int .i64 room,.pointer none,.slice none 0 0,.slice none 0 0,.map (some W2.heap.size)] 90)):=(Only.refl [] W3).alloc _
     have hq:Only [] (W2.alloc (.map #[] 0)) W3:=⟨q.os,q.tape,q.output,q.size,q.block⟩
     have hmp:IMap W3 W2.heap.size (fun _=>none) 0:=(IMap.made W2).only hq (by simp)
     have HL:Hid (LivSt W2.heap.size (fun _=>none) (W3.alloc (.cells #[.slice (some ⟨g2,0,none⟩) n c2,.int .i64 256,.int .i64 na,.int .i64 nt,.int .i64 bud,.int .i64 room,.pointer none,.slice none 0 0,.slice none 0 0,.map (some W2.heap.size)] 90)) [W2.heap.size]):=⟨⟨0,hmp.only hoH (by simp)⟩,rfl⟩
     have hbH:=Blk.new W3 90 #[.slice (some ⟨g2,0,none⟩) n c2,.int .i64 256,.int .i64 na,.int .i64 nt,.int .i64 bud,.int .i64 room,.pointer none,.slice none 0 0,.slice none 0 0,.map (some W2.heap.size)]
     have hsz:W2.heap.size+1<=W3.heap.size/\W2.heap.size+1<=g2:=⟨by have:=hq.size;simpa using this,by simpa using hg2⟩
     have HEQ:Hid (W.heap.size+1<=g2/\W.heap.size+1<=W2.heap.size/\g2<W3.heap.size/\W2.heap.size<W3.heap.size/\g2≠W2.heap.size):=⟨by omega,by omega,by omega,by omega,by omega⟩
     have HO6:=Lib.hid (((HO2.out.alloc (.map #[] 0)).trans hq).trans hoH)
     have HR6:=Lib.hid (hR2.only hoH (by simp))
     have HB6:=Lib.hid (hbd.only hoH (by simp))
     clear hmp q hq hoH ho3 hR2 hg2 hg2l hsz hlt2 x0 x1 x2 x3 x4 hbd
     generalize W3.alloc (.cells #[.slice (some ⟨g2,0,none⟩) n c2,.int .i64 256,.int .i64 na,.int .i64 nt,.int .i64 bud,.int .i64 room,.pointer none,.slice none 0 0,.slice none 0 0,.map (some W2.heap.size)] 90)=w6 at *
     generalize W3.heap.size=hh at *
     generalize W2.heap.size=gL at *)
   |(have q:Only [] W2.drew W3:=ho3
     have hbH:=Blk.new (W3.alloc (.map #[] 0)) 90 #[.slice (some ⟨g2,0,none⟩) n c2,.int .i64 256,.int .i64 na,.int .i64 nt,.int .i64 bud,.int .i64 room,.pointer none,.slice none 0 0,.slice none 0 0,.map (some W3.heap.size)]
     rw[World.size_alloc] at hbH
     have hoH:Only [] (W3.alloc (.map #[] 0)) ((W3.alloc (.map #[] 0)).alloc (.cells #[.slice (some ⟨g2,0,none⟩) n c2,.int .i64 256,.int .i64 na,.int .i64 nt,.int .i64 bud,.int .i64 room,.pointer none,.slice none 0 0,.slice none 0 0,.map (some W3.heap.size)] 90)):=(Only.refl [] (W3.alloc (.map #[] 0))).alloc _
     have hq:Only [] W2 W3:=⟨q.os,q.tape,q.output,q.size,q.block⟩
     have HL:Hid (LivSt W3.heap.size (fun _=>none) ((W3.alloc (.map #[] 0)).alloc (.cells #[.slice (some ⟨g2,0,none⟩) n c2,.int .i64 256,.int .i64 na,.int .i64 nt,.int .i64 bud,.int .i64 room,.pointer none,.slice none 0 0,.slice none 0 0,.map (some W3.heap.size)] 90)) [W3.heap.size]):=⟨⟨0,(IMap.made W3).only hoH (by simp)⟩,rfl⟩
     have hsz:W2.heap.size<=W3.heap.size/\W2.heap.size<=g2:=⟨hq.size,by simpa using hg2⟩
     have HEQ:Hid (W.heap.size+1<=g2/\W.heap.size+1<=W3.heap.size/\g2<W3.heap.size+1/\W3.heap.size<W3.heap.size+1/\g2≠W3.heap.size):=⟨by omega,by omega,by omega,by omega,by omega⟩
     have hoM:Only [] W3 (W3.alloc (.map #[] 0)):=(Only.refl [] W3).alloc _
     have HO6:=Lib.hid (((HO2.out.trans hq).trans hoM).trans hoH)
     have HR6:=Lib.hid (hR2.only (hoM.trans hoH) (by simp))
     have HB6:=Lib.hid (hbd.only (hoM.trans hoH) (by simp))
     clear q hq hoH hoM ho3 hR2 hg2 hg2l hsz hlt2 x0 x1 x2 x3 x4 hbd
     generalize (W3.alloc (.map #[] 0)).alloc (.cells #[.slice (some ⟨g2,0,none⟩) n c2,.int .i64 256,.int .i64 na,.int .i64 nt,.int .i64 bud,.int .i64 room,.pointer none,.slice none 0 0,.slice none 0 0,.map (some W3.heap.size)] 90)=w6 at *
     generalize W3.heap.size+1=hh at *
     generalize W3.heap.size=gL at *)
 all_goals
  have x0:=HB6.out.cell_ 0 rfl
  go_wp2_with fail
  refine(V.New_any (HE.out.only HO6.out (by simp)) 256).mono ?_
  rintro r W7 ⟨ho7,hy,_⟩
  obtain⟨sp,l7,rfl,hs7,hl7⟩:=hy ⟨by decide,by decide⟩
  have hb7:=hbH.only ho7 (by simp)
  have z6:=hb7.cell_ 6 rfl
  have fz6:=hb7.frozen 6
  have hset:Only [hh] W7 (W7.setCell ⟨hh,6,none⟩ (.pointer (some ⟨sp,0,none⟩))):=(Only.refl [hh] W7).setCell (p:=⟨hh,6,none⟩) (.inl (by simp)) _
  have hst:HpB T bud room na nt hh g2 c2 sp gL W.heap.size 0 0 W (W7.setCell ⟨hh,6,none⟩ (.pointer (some ⟨sp,0,none⟩))):=by
   obtain⟨e1,e2,e3,e4,e5⟩:=HEQ.out
   have lh:=hbH.lt
   have hb8:=hb7.set_ 6 (.pointer (some ⟨sp,0,none⟩))
   rw[<-hl] at hb8
   have hr6:=HR6.out
   rw[<-hl] at hr6
   refine HpB.start (s2:=W.heap.size+1) (s3:=w6.heap.size) hb8 ((hr6.only ho7 (by simp)).only hset (fun ad e=>by cases e;simp;omega)) ((HB6.out.only ho7 (by simp)).only hset (by simp;omega)) ((LivSt.framed _ _).only ((LivSt.framed _ _).still HL.out ho7) hset (by simp;omega)) (hs7.only hset (fun b hb=>by have:=hl7 b hb;simp;omega)) ((HO6.out.trans ho7).setCell (p:=⟨hh,6,none⟩) (.inr (by show W.heap.size<=hh;omega)) _) (Nat.le_refl _) (Nat.lt_succ_self _) e1 e2 e3 e4 e5 lh hl7
  have HST:=Lib.hid hst
  have x1:=hst.cfg.cell_ 1 rfl
  clear hst hset hs7 hl7 hbH ho7 hy x0 HB6 HL HR6 HEQ HO6
  go_wp2_with fail
  go_loopw[36] (fun t wr=>∃i:Nat,i<=na/\t=.int .i64 i/\HpB T bud room na nt hh g2 c2 sp gL W.heap.size i 0 W wr) (fun t _=>na-(intOf t).toNat)
  case atStart=>exact⟨0,Nat.zero_le _,rfl,HST.out⟩
  case round=>
   obtain⟨i,hi,rfl,hA⟩:=hrel
   have HA:=Lib.hid hA
   clear hA
   rcases Nat.lt_or_ge i na with hlt|hge
   ·have hlt':(i:Int)<na:=by omega
    have hAd:=HA.out.still ((Only.refl [] wr).drew)
    obtain⟨vA,vT,A,A',c3,c4,xs,rfl,rfl,hbl,hnext⟩:=hAd.arena
    have y6:=(hbl wr.drew (Only.refl _ _)).1.cell_ 6 rfl
    have y4:=hAd.cfg.cell_ 4 rfl
    obtain⟨fs,hsp⟩:=hAd.spc
    have CAN:=Lib.hid (arnew_at (c:=c) (HE.out.only hAd.o (by simp)) (m:=V.SpM.fresh 256) rfl hsp HT.out (HR.out.only hAd.o (by simp)) h4'.out.1 h4'.out.2)
    have HBL:=Lib.hid hbl
    have HNX:=Lib.hid hnext
    have HCF:=Lib.hid hAd.cfg
    have hbs:=hAd.o.size
    have hos:Hid (W.heap.size<=wr.drew.heap.size):=hAd.o.size
    clear hAd hbl hnext hsp
    go_upto_region 9 with fail
    go_region_held3 (fun w'=>w'.cell? ⟨hh,6,none⟩=some (.pointer (some ⟨sp,0,none⟩))/\w'.cell? ⟨W.heap.size,4,none⟩=some (.int .i64 room))
     (refine⟨?_,?_⟩<;>assumption)
     (first
      |(go_at_call 49;refine Calls.mono CAN.out ?_;rintro _ W9 ⟨ar,rfl,ga,ca,hca,b1,h1',p1,r1,hAr⟩;have y6:=(HBL.out W9 hAr.o).1.cell_ 6 rfl;have y4:=(HCF.out.only hAr.o (by simp)).cell_ 4 rfl))
    have HAR:=Lib.hid hAr
    have y7:=(HBL.out W9 hAr.o).1.cell_ 7 rfl
    have hb9:W.heap.size<=W9.heap.size:=Nat.le_trans hos.out hAr.o.size
    clear hAr y6 y4
    go_wp2_with (at_builtin;refine wpList_append_own_at _ rfl _ _ 86 rfl W.heap.size 108 ia (.pointer none) 1 8 Tryz.underlying86 ia1 ia2 ia3 ia4 rfl (by decide) _ _ _ rfl (own_only (HBL.out W9 HAR.out.o).2 ((Only.refl [] W9).alloc _) (by simp)) ⟨W9.heap.size,0,none⟩ 1 1 [.pointer (some ⟨ar,0,none⟩)] rfl rfl (cell_new1 W9 _ _) (by simp[Value.oneCell']) (by unfold maxLen;omega) (by omega) (by simp;omega) ?_;intro v1 w1 hown1 hg1 _ hat1;obtain⟨q1,q2,hq3⟩:=HNX.out W9 ga ca b1 h1' p1 r1 ar (by rw[hl];exact HAR.out) (by omega) (by omega) _ ((Only.refl [] W9).alloc _) _ w1 hown1 hg1 hat1;obtain⟨A1,c5,rfl,_⟩:=own_slice hown1;have HQ3:=Lib.hid hq3;clear hown1 hg1 hat1 hq3)
    exact⟨⟨i+1,by omega,by go_num,HQ3.out⟩,by show na-((i:Int)+1).toNat<na-(i:Int).toNat;omega⟩
   ·have hlt':¬((i:Int)<na):=by omega
    have e:i=na:=by omega
    have HA2:Hid (HpB T bud room na nt hh g2 c2 sp gL W.heap.size na 0 W wr):=e▸HA.out
    have x2:=HA2.out.cfg.cell_ 2 rfl
    clear HA e hge
    go_wp2_with fail
    go_loopw[62] (fun t wr=>∃j:Nat,j<=nt/\t=.int .i64 j/\HpB T bud room na nt hh g2 c2 sp gL W.heap.size na j W wr) (fun t _=>nt-(intOf t).toNat)
    case atStart=>exact⟨0,Nat.zero_le _,rfl,HA2.out⟩
    case round=>
     obtain⟨j,hj,rfl,hB⟩:=hrel
     have HB:=Lib.hid hB
     clear hB
     rcases Nat.lt_or_ge j nt with hjlt|hjge
     ·have hjlt':(j:Int)<nt:=by omega
      have hB:=HB.out
      obtain⟨vA,vT,A,A',c3,c4,xs,rfl,rfl,hbl,hnext⟩:=hB.thread
      have y3:=hB.cfg.cell_ 3 rfl
      have CCN:=Lib.hid (cnew_at (c:=c) (HR.out.only hB.o (by simp)) HT.out bud h3'.out.1 h3'.out.2)
      have HBL:=Lib.hid hbl
      have HNX:=Lib.hid hnext
      have hbs:=hB.o.size
      clear hB hbl hnext
      go_wp2_with fail
      refine CCN.out.mono ?_
      rintro r W9 ⟨q,fp,rfl,hC,ho9,hfp⟩
      have HC:=Lib.hid (⟨ho9,hC,hfp⟩:Only [] wr W9/\CaSt q T bud (fun _=>none) W9 fp/\∀x∈fp,wr.heap.size<=x)
      have y8:=(HBL.out W9 ho9).1.cell_ 8 rfl
      have hb9:W.heap.size<=W9.heap.size:=Nat.le_trans hbs ho9.size
      clear hC ho9 hfp y3
      go_wp2_with (at_builtin;refine wpList_append_own_at _ rfl _ _ 87 rfl W.heap.size 118 it (.agg #[.pointer none,.slice none 0 0,.nilIface]) 3 48 Tryz.underlying87 it1 it2 it3 it4 rfl (by decide) _ _ _ rfl (own_only (HBL.out W9 HC.out.1).2 ((Only.refl [] W9).alloc _) (by simp)) ⟨W9.heap.size,0,none⟩ 1 1 [.pointer (some ⟨q,0,none⟩),.slice none 0 0,.nilIface] rfl rfl (cells_new3 W9 _ _ _ _) (by simp[Value.oneCell']) (by unfold maxLen;omega) (by omega) (by simp;omega) ?_;intro v1 w1 hown1 hg1 _ hat1;obtain⟨q1,q2,hq3⟩:=HNX.out W9 q fp HC.out.1 HC.out.2.1 HC.out.2.2 _ ((Only.refl [] W9).alloc _) _ w1 hown1 hg1 hat1;obtain⟨A1,c5,rfl,_⟩:=own_slice hown1;have HQ3:=Lib.hid hq3;clear hown1 hg1 hat1 hq3)
      exact⟨⟨j+1,by omega,by go_num,HQ3.out⟩,by show nt-((j:Int)+1).toNat<nt-(j:Int).toNat;omega⟩
     ·have hjlt':¬((j:Int)<nt):=by omega
      have e:j=nt:=by omega
      have HB2':Hid (HpB T bud room na nt hh g2 c2 sp gL W.heap.size na nt W wr):=e▸HB.out
      clear HB e hjge
      go_wp2_with fail
      go_ret2
      obtain⟨P,rfl,f1,f2,f3,f4,f5,f6⟩:=HB2'.out.done (HE.out.only HB2'.out.o (by simp)) (HpB.env3 HE.out) HT.out (by omega) ⟨by omega,by omega⟩ ⟨by omega,by omega⟩ h3'.out h4'.out
      exact⟨P,rfl,f1,f2,f3,f4,f5,HB2'.out.o,f6⟩
structure U8s (w:World) (A:Option Addr) (n:Nat) (f:Nat->Nat):Prop where
 at_:∀i,i<n->∃ad,A=some ad/\ad.block<w.heap.size/\w.cell? (ad.add i)=some (.int .u8 (f i:Nat))/\f i<256
theorem U8s.still {w W:World} {A:Option Addr} {n:Nat} {f:Nat->Nat} (h:U8s w A n f) (ho:Only [] w W):U8s W A n f:=⟨fun i hi=>by
 obtain⟨ad,e,h1,h2,h3⟩:=h.at_ i hi
 have hb:(ad.add i).block<w.heap.size:=World.block_lt_of_cell? w _ h2
 exact⟨ad,e,Nat.lt_of_lt_of_le h1 ho.size,(ho.cell (p:=ad.add i) hb (by simp)).trans h2,h3⟩⟩
def modL (f:Nat->Nat) (nt:Nat):Nat->List Int
 |0=>[]
 |k+1=>modL f nt k++[((f k%nt:Nat):Int)]
theorem modL_len (f:Nat->Nat) (nt k:Nat):(modL f nt k).length=k:=by
 induction k with
 |zero=>rfl
 |succ k ih=>rw[modL,List.length_append,ih];rfl
theorem modL_at (f:Nat->Nat) (nt k i:Nat) (hi:i<k):(modL f nt k)[i]? =some ((f i%nt:Nat):Int):=by
 induction k with
 |zero=>omega
 |succ k ih=>
  rw[modL]
  rcases Nat.lt_or_ge i k with h|h
  ·rw[List.getElem?_append_left (by rw[modL_len];exact h)];exact ih h
  ·obtain rfl:i=k:=by omega
   rw[List.getElem?_append_right (by rw[modL_len];exact Nat.le_refl _),modL_len];simp
set_option maxRecDepth 100000 in
set_option maxHeartbeats 4000000 in
theorem turns_at {W:World} {A:Option Addr} {n c:Nat} {f:Nat->Nat} (h:U8s W A n f) (hn:n<=9223372036854775807) {nt:Nat} (h1:1<=nt) (h3:nt<=3):Calls Tryz.prog 9 #[.int .i64 nt,.slice A n c,.int .i64 400] W fun e W'=>∃v,e=.returned v/\∃m,m<=400/\W'.ownsRow W.heap.size 3 1 v m ((modL f nt m).map (Value.int .i64))/\Only [] W W':=by
 have HH:=Lib.hid h
 obtain⟨i0,hi,hz0,hz1,hz2⟩:=info_parts info_int
 have hne:((nt:Int)==0)=false:=beq_eq_false_iff_ne.2 (by omega)
 clear h
 go_enter Tryz.func9,Tryz.ntmps9
 go_wp2_with fail
 go_loopw[7,8] (fun t7 t8 wr=>∃i:Nat,i<=n/\i<=400/\t8=.int .i64 i/\wr.ownsRow W.heap.size 3 1 t7 i ((modL f nt i).map (Value.int .i64))/\Only [] W wr) (fun _ t _=>400-(intOf t).toNat)
 case atStart=>exact⟨0,Nat.zero_le _,Nat.zero_le _,rfl,World.ownsRow_nil _ _ _ _,Only.refl _ _⟩
 case round=>
  obtain⟨i,hin,hi4,rfl,hrow,ho⟩:=hrel
  have HROW:=Lib.hid hrow
  have HO:=Lib.hid ho
  have hos:=ho.size
  clear hrow ho
  rcases Nat.lt_or_ge i n with hlt|hge
  ·have hlt':(i:Int)<n:=by omega
   rcases Nat.lt_or_ge i 400 with h4|h4
   ·have h4':(i:Int)<400:=by omega
    obtain⟨ad,rfl,_,hc,hf⟩:=(HH.out.still HO.out).at_ i hlt
    have hx:Hid (modL f nt (i+1)=modL f nt i++[((f i%nt:Nat):Int)]):=(rfl:modL f nt (i+1)=_)
    have hmod:((f i:Nat):Int).tmod nt=((f i%nt:Nat):Int):=by
     rw[Int.tmod_eq_emod_of_nonneg (by omega)];rfl
    have hmb:f i%nt<3:=Nat.lt_of_lt_of_le (Nat.mod_lt _ (by omega)) h3
    generalize f i%nt=m at *
    generalize f i=x at *
    have hbs:=HO.out.size
    go_wp2_with (at_builtin;refine wpList_append_own _ rfl _ _ 37 rfl W.heap.size 3 i0 (.int .i64 0) 1 8 Tryz.underlying37 hi hz0 hz1 hz2 rfl (by decide) _ _ _ rfl (own_only HROW.out ((Only.refl [] wr).alloc _) (by simp)) ⟨wr.heap.size,0,none⟩ 1 1 [.int .i64 m] rfl rfl (cell_new1 wr _ _) (by simp[Value.oneCell']) (by unfold maxLen;omega) (by omega) (by simp;omega) ?_;intro v1 w1 hown1 hg1 _)
    refine⟨⟨i+1,by omega,by omega,by go_num,?_,(HO.out.alloc _).grown hg1 (fun k hk=>.inr (own_base HROW.out k hk))⟩,by show 400-((i:Int)+1).toNat<400-(i:Int).toNat;omega⟩
    rw[hx.out,List.map_append]
    exact hown1
   ·have h4':¬((i:Int)<400):=by omega
    go_wp2_with fail
    go_ret
    exact⟨_,rfl,i,hi4,HROW.out,HO.out⟩
  ·have hlt':¬((i:Int)<n):=by omega
   go_wp2_with fail
   go_ret
   exact⟨_,rfl,i,hi4,HROW.out,HO.out⟩
def setV (s:Nat->Nat):Value:=.agg #[.int .u8 (s 0:Nat),.int .u8 (s 1:Nat),.int .u8 (s 2:Nat),.int .u8 (s 3:Nat),.int .u8 (s 4:Nat),.int .u8 (s 5:Nat)]
def budL:List Int:=[0,300,1024,4096,65536]
theorem results_cfg {fn:Func} {t:Tmp} (h:fn.results=#[.cell t 27]) {tmps:Array Value} {w:World} {b:Nat} {x0 x1 x2 x3 x4:Int} (hu:tmps.getD t undef=.pointer (some ⟨b,0,none⟩)) (hb:Blk w b 27 #[.int .i64 x0,.int .i64 x1,.int .i64 x2,.int .i64 x3,.int .i64 x4]):
 (results fn tmps).run Tryz.prog w=.ok (.agg #[.int .i64 x0,.int .i64 x1,.int .i64 x2,.int .i64 x3,.int .i64 x4]) w:=by
 have hu':tmps[t]?.getD undef=.pointer (some ⟨b,0,none⟩):=by simpa using hu
 have h0:=hb.cell_ 0 rfl
 have h1:=hb.cell_ 1 rfl
 have h2:=hb.cell_ 2 rfl
 have h3:=hb.cell_ 3 rfl
 have h4:=hb.cell_ 4 rfl
 simp[results,h,hu',go_sem,h0,h1,h2,h3,h4]
set_option maxRecDepth 100000 in
set_option maxHeartbeats 8000000 in
theorem config_at (W:World) (s:Nat->Nat) (hs:∀i,i<6->s i<256) (h0:s 0=13):Grew Tryz.prog 4 #[setV s] W (.agg #[.int .i64 256,.int .i64 ((s 1%3+1:Nat):Int),.int .i64 ((s 2%3+1:Nat):Int),.int .i64 (budL.getD (s 3%5) 0),.int .i64 ((s 4%4:Nat):Int)]):=by
 have b1:=hs 1 (by decide)
 have b2:=hs 2 (by decide)
 have b3:=hs 3 (by decide)
 have b4:=hs 4 (by decide)
 have b5:=hs 5 (by decide)
 unfold setV
 rw[h0]
 generalize s 1=s1 at *
 generalize s 2=s2 at *
 generalize s 3=s3 at *
 generalize s 4=s4 at *
 generalize s 5=s5 at *
 have m1:((s1:Nat):Int).tmod 3=((s1%3:Nat):Int):=by rw[Int.tmod_eq_emod_of_nonneg (by omega)];rfl
 have m2:((s2:Nat):Int).tmod 3=((s2%3:Nat):Int):=by rw[Int.tmod_eq_emod_of_nonneg (by omega)];rfl
 have m3:((s3:Nat):Int).tmod 5=((s3%5:Nat):Int):=by rw[Int.tmod_eq_emod_of_nonneg (by omega)];rfl
 have m4:((s4:Nat):Int).tmod 4=((s4%4:Nat):Int):=by rw[Int.tmod_eq_emod_of_nonneg (by omega)];rfl
 have hk5:s3%5<5:=Nat.mod_lt _ (by decide)
 have n1:s1%3<3:=Nat.mod_lt _ (by decide)
 have n2:s2%3<3:=Nat.mod_lt _ (by decide)
 have n4:s4%4<4:=Nat.mod_lt _ (by decide)
 generalize s3%5=k at *
 generalize s1%3=k1 at *
 generalize s2%3=k2 at *
 generalize s4%4=k4 at *
 have hk5':(k:Int)<5:=by omega
 clear hs h0
 go_enter Tryz.func4,Tryz.ntmps4
 go_upto_region 2 with fail
 have hb1:=Blk.new W 23 #[.int .u8 13,.int .u8 (s1:Nat),.int .u8 (s2:Nat),.int .u8 (s3:Nat),.int .u8 (s4:Nat),.int .u8 (s5:Nat)]
 generalize hW1:W.alloc (.cells #[.int .u8 13,.int .u8 (s1:Nat),.int .u8 (s2:Nat),.int .u8 (s3:Nat),.int .u8 (s4:Nat),.int .u8 (s5:Nat)] 23)=W1 at *
 have ho1:Only [] W W1:=hW1▸(Only.refl [] W).alloc _
 have e1:W1.heap.size=W.heap.size+1:=by rw[<-hW1];simp
 have hb2:=Blk.new W1 27 #[.int .i64 0,.int .i64 0,.int .i64 0,.int .i64 0,.int .i64 0]
 generalize hW2:W1.alloc (.cells #[.int .i64 0,.int .i64 0,.int .i64 0,.int .i64 0,.int .i64 0] 27)=W2 at *
 have ho2:Only [] W1 W2:=hW2▸(Only.refl [] W1).alloc _
 have e2:W2.heap.size=W.heap.size+1+1:=by rw[<-hW2];simp[e1]
 have hb3:=Blk.new W2 3 #[.int .i64 0,.int .i64 300,.int .i64 1024,.int .i64 4096,.int .i64 65536]
 generalize hW3:W2.alloc (.cells #[.int .i64 0,.int .i64 300,.int .i64 1024,.int .i64 4096,.int .i64 65536] 3)=W3 at *
 have ho3:Only [] W2 W3:=hW3▸(Only.refl [] W2).alloc _
 rw[e1] at hb2
 rw[e2] at hb3
 have hc1:Blk W3 W.heap.size _ _:=(hb1.only ho2 (by simp)).only ho3 (by simp)
 have hc2:Blk W3 (W.heap.size+1) _ _:=hb2.only ho3 (by simp)
 have x1:W3.cell? ⟨W.heap.size,1,none⟩=some (.int .u8 (s1:Nat)):=hc1.cell_ 1 rfl
 have x0:W3.cell? ⟨W.heap.size,0,none⟩=some (.int .u8 13):=hc1.cell_ 0 rfl
 have x2:W3.cell? ⟨W.heap.size,2,none⟩=some (.int .u8 (s2:Nat)):=hc1.cell_ 2 rfl
 have x3:W3.cell? ⟨W.heap.size,3,none⟩=some (.int .u8 (s3:Nat)):=hc1.cell_ 3 rfl
 have x4:W3.cell? ⟨W.heap.size,4,none⟩=some (.int .u8 (s4:Nat)):=hc1.cell_ 4 rfl
 have y0:W3.cell? ⟨W.heap.size+1+1,k,none⟩=some (.int .i64 (budL.getD k 0)):=hb3.cell_ k (by
  rcases (show k=0\/k=1\/k=2\/k=3\/k=4 by omega) with rfl|rfl|rfl|rfl|rfl<;>rfl)
 have z0:W3.cell? ⟨W.heap.size+1,0,none⟩=some (.int .i64 0):=hc2.cell_ 0 rfl
 have z1:W3.cell? ⟨W.heap.size+1,1,none⟩=some (.int .i64 0):=hc2.cell_ 1 rfl
 have z2:W3.cell? ⟨W.heap.size+1,2,none⟩=some (.int .i64 0):=hc2.cell_ 2 rfl
 have z3:W3.cell? ⟨W.heap.size+1,3,none⟩=some (.int .i64 0):=hc2.cell_ 3 rfl
 have z4:W3.cell? ⟨W.heap.size+1,4,none⟩=some (.int .i64 0):=hc2.cell_ 4 rfl
 have f0:=hc2.frozen 0
 have f1:=hc2.frozen 1
 have f2:=hc2.frozen 2
 have f3:=hc2.frozen 3
 have f4:=hc2.frozen 4
 have HO3:=Lib.hid ((ho1.trans ho2).trans ho3)
 have HC2:=Lib.hid hc2
 have HL:=Lib.hid ho1.size
 generalize hBB:W.heap.size=B at *
 have HBB:=Lib.hid hBB
 clear hBB
 clear hW1 hW2 hW3 hb1 hb2 hb3 hc1 hc2 ho1 ho2 ho3 e1 e2
 generalize hbu:budL.getD k 0=bu at *
 have HBU:=Lib.hid hbu
 clear hbu
 go_region
 all_goals
  have HB:=((((HC2.out.set_ 0 (.int .i64 256)).set_ 1 (.int .i64 ((k1:Int)+1))).set_ 2 (.int .i64 ((k2:Int)+1))).set_ 3 (.int .i64 bu)).set_ 4 (.int .i64 (k4:Nat))
  have HO:=((((HO3.out.setCell (p:=⟨B+1,0,none⟩) (.inr (by show W.heap.size<=B+1;rw[HBB.out];omega)) (.int .i64 256)).setCell (p:=⟨B+1,1,none⟩) (.inr (by show W.heap.size<=B+1;rw[HBB.out];omega)) (.int .i64 ((k1:Int)+1))).setCell (p:=⟨B+1,2,none⟩) (.inr (by show W.heap.size<=B+1;rw[HBB.out];omega)) (.int .i64 ((k2:Int)+1))).setCell (p:=⟨B+1,3,none⟩) (.inr (by show W.heap.size<=B+1;rw[HBB.out];omega)) (.int .i64 bu)).setCell (p:=⟨B+1,4,none⟩) (.inr (by show W.heap.size<=B+1;rw[HBB.out];omega)) (.int .i64 (k4:Nat))
  have HHB:=Lib.hid HB
  have HHO:=Lib.hid HO
  clear HB HO
  go_wp2_with fail
  refine bodyPost_ret (results_cfg rfl rfl HHB.out) rfl ?_
  exact⟨by rw[HBU.out];rfl,HHO.out.drew⟩
theorem budL_le (k:Nat) (hk:k<5):0<=budL.getD k 0/\budL.getD k 0<=65536:=by
 rcases (show k=0\/k=1\/k=2\/k=3\/k=4 by omega) with rfl|rfl|rfl|rfl|rfl<;>decide
set_option maxRecDepth 100000 in
set_option maxHeartbeats 8000000 in
theorem fresh_at {W:World} (hE:V.Env W) (s:Nat->Nat) (hs:∀i,i<6->s i<256) (h0:s 0=13):Calls Tryz.prog 8 #[setV s] W fun e W'=>
 ∃P:Hp,e=.returned (.pointer (some ⟨P.h,0,none⟩))/\P.T=Z.makeC ((s 5%15+2:Nat):Int)/\Z.isTable P.T/\P.na=s 1%3+1/\P.nt=s 2%3+1/\Only [] W W'/\∃FP,HSys P (HS0 fun _=>.slice none 0 0) W' FP/\∀b∈FP,W.heap.size<=b:=by
 have CC:∀W',Grew Tryz.prog 4 #[.agg #[.int .u8 13,.int .u8 (s 1:Nat),.int .u8 (s 2:Nat),.int .u8 (s 3:Nat),.int .u8 (s 4:Nat),.int .u8 (s 5:Nat)]] W' (.agg #[.int .i64 256,.int .i64 ((s 1%3+1:Nat):Int),.int .i64 ((s 2%3+1:Nat):Int),.int .i64 (budL.getD (s 3%5) 0),.int .i64 ((s 4%4:Nat):Int)]):=fun W'=>by
  have:=config_at W' s hs h0
  unfold setV at this
  rw[h0] at this
  exact this
 have hbl:=budL_le (s 3%5) (Nat.mod_lt _ (by decide))
 have b5:=hs 5 (by decide)
 unfold setV
 rw[h0]
 generalize budL.getD (s 3%5) 0=bu at *
 generalize s 1=s1 at *
 generalize s 2=s2 at *
 generalize s 3=s3 at *
 generalize s 4=s4 at *
 generalize s 5=s5 at *
 have m5:((s5:Nat):Int).tmod 15=((s5%15:Nat):Int):=by rw[Int.tmod_eq_emod_of_nonneg (by omega)];rfl
 have k5:s5%15<15:=Nat.mod_lt _ (by decide)
 have k1:s1%3<3:=Nat.mod_lt _ (by decide)
 have k2:s2%3<3:=Nat.mod_lt _ (by decide)
 have k4:s4%4<4:=Nat.mod_lt _ (by decide)
 generalize s5%15=x5 at *
 generalize s4%4=x4 at *
 have hT:=Lib.hid (make_table (w:=((x5+2:Nat):Int)) (by omega) (by omega))
 have CM:=fun W'=>Z.Make_any W' ((x5+2:Nat):Int) (by omega) (by omega)
 have hcast:(((x5+2:Nat):Nat):Int)=(x5:Int)+2:=by omega
 have HN:=Lib.hid (fun (W':World) (hE:V.Env W') (g n c:Nat) (T:List Z.Cl) (hT:Z.isTable T) (hR:Z.ReadsC W' (some ⟨g,0,none⟩) n T)=>hnew_at hE (c:=c) hT hR (na:=s1%3+1) (nt:=s2%3+1) (bud:=bu) (room:=(x4:Nat)) ⟨by omega,by omega⟩ ⟨by omega,by omega⟩ hbl ⟨by omega,by omega⟩)
 generalize hTT:Z.makeC ((x5+2:Nat):Int)=T at *
 rw[hcast] at CM
 have CMH:=Lib.hid CM
 have HTT:=Lib.hid hTT
 have CCH:=Lib.hid CC
 have HE:=Lib.hid hE
 clear CC CM hTT hbl hE hs h0 hcast
 generalize hn1:s1%3+1=na at *
 generalize hn2:s2%3+1=nt at *
 clear hn1 hn2
 have hb1:=Blk.new W 23 #[.int .u8 13,.int .u8 (s1:Nat),.int .u8 (s2:Nat),.int .u8 (s3:Nat),.int .u8 (s4:Nat),.int .u8 (s5:Nat)]
 have ho1:=(Only.refl [] W).alloc (.cells #[.int .u8 13,.int .u8 (s1:Nat),.int .u8 (s2:Nat),.int .u8 (s3:Nat),.int .u8 (s4:Nat),.int .u8 (s5:Nat)] 23)
 have HB1:=Lib.hid hb1
 have HO1:=Lib.hid ho1
 clear hb1 ho1
 go_enter Tryz.func8,Tryz.ntmps8
 go_wp2_with fail
 generalize W.alloc (.cells #[.int .u8 13,.int .u8 (s1:Nat),.int .u8 (s2:Nat),.int .u8 (s3:Nat),.int .u8 (s4:Nat),.int .u8 (s5:Nat)] 23)=W1 at *
 refine(CMH.out W1).mono ?_
 rintro r W2 ⟨v,rfl,hown,hbel⟩
 obtain⟨g,c,rfl,hc,hg,hg2,hR⟩:=readsC_own hT.out hown
 have HO2:Hid (Only [] W1 W2):=Only.of_below hbel
 have HR:=Lib.hid hR
 have hb2:=HB1.out.only HO2.out (by simp)
 have c0:=hb2.cell_ 0 rfl
 have c1:=hb2.cell_ 1 rfl
 have c2:=hb2.cell_ 2 rfl
 have c3:=hb2.cell_ 3 rfl
 have c4:=hb2.cell_ 4 rfl
 have c5:=hb2.cell_ 5 rfl
 clear hown hbel hR hb2
 generalize T.length=n at *
 go_wp2_with fail
 refine Grew.use (CCH.out W2) (fun W3 ho3=>?_)
 have HO3:=Lib.hid ((HO1.out.trans HO2.out).trans ho3)
 have HR3:=Lib.hid (HR.out.only ho3 (by simp))
 clear ho3 c0 c1 c2 c3 c4 c5
 go_wp2_with fail
 refine(HN.out W3 (HE.out.only HO3.out (by simp)) g n c T hT.out HR3.out).mono ?_
 rintro r W4 ⟨P,rfl,e1,e2,e3,e4,e5,ho4,FP,hs,hb⟩
 have HF:=Lib.hid (⟨e1,e2,e3,ho4,hs,hb⟩:P.T=T/\P.na=na/\P.nt=nt/\Only [] W3 W4/\HSys P (HS0 fun _=>.slice none 0 0) W4 FP/\∀b∈FP,W3.heap.size<=b)
 clear e1 e2 e3 e4 e5 ho4 hs hb
 go_wp2_with fail
 go_ret
 obtain⟨f1,f2,f3,f4,f5,f6⟩:=HF.out
 exact⟨P,rfl,f1,by rw[f1];exact hT.out,f2,f3,HO3.out.trans f4,FP,f5,fun b hb=>Nat.le_trans HO3.out.size (f6 b hb)⟩
end Go.Proofs.YtcidjimefnhacaaGreatDoor
