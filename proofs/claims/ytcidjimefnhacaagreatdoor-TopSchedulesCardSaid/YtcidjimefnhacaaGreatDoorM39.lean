/- TopSchedules, a part of the proof: Uo. -/
import Derived.Test.YtcidjimefnhacaaGreatDoorM38
import Derived.Test.YtcidjimefnhacaaGreatDoorM20
import Derived.Deep.DeepCutAuto
set_option linter.unusedVariables false
set_option linter.unusedSimpArgs false
namespace Go.Proofs.YtcidjimefnhacaaGreatDoor
open Go.RowKit
theorem ArB.start {T:List Z.Cl} {room:Int} {sp g2 c2 bd hu pm rn ar s2 s5:Nat} {W0 w:World} {f1 f2:List Nat} (hb:Blk w ar 140 #[.slice (some ⟨g2,0,none⟩) T.length c2,.pointer (some ⟨sp,0,none⟩),.pointer (some ⟨bd,0,none⟩),.pointer (some ⟨hu,0,none⟩),.pointer (some ⟨pm,0,none⟩),.slice none 0 0,.slice none 0 0,.map (some rn)])
 (hR:Z.ReadsC w (some ⟨g2,0,none⟩) T.length T) (hB:BuSt bd (fun _ _=>false) w f1) (hH:HuSt 256 hu (fun _=>0) w f2) (hP:PmSt pm w [pm]) (hM:RunSt rn (fun _=>none) w [rn]) (ho:Only [] W0 w)
 (e1:W0.heap.size<=g2) (e2:g2<s2) (e3:pm=s2) (e4:s2<rn) (e5:ar=rn+1) (e6:ar<s5) (h1:∀b∈f1,ar<b/\b<s5) (h2:∀b∈f2,s5<=b):ArB T room sp g2 c2 bd hu pm rn ar 0 W0 w:=by
 have l1:=hb.lt
 have l2:=(BuSt.framed bd (fun _ _=>false)).lt hB
 have l3:=(HuSt.framed 256 hu (fun _=>0)).lt hH
 refine⟨⟨fun b=>if b<s2 then 0 else if b<rn then 3 else if b=rn then 4 else if b=ar then 0 else if b<s5 then 1 else 2,.slice none 0 0,.slice none 0 0,fun _=>0,fun _=>0,f1,f2,[pm],fun _=>[],fun _=>[],hb,hR,World.ownsRow_nil _ _ _ _,World.ownsRow_nil _ _ _ _,hB,hH,hP,hM,(fun k hk=>by omega),?_,?_,(fun b h=>by cases h),(fun b h=>by cases h),?_,?_,?_,?_,(fun k hk=>by omega),by omega,(fun k h=>by cases h),fun k h=>by cases h⟩,ho⟩
 ·intro b hb;simp at hb;subst hb
  exact⟨by omega,l1,by dsimp only;rw[if_neg (by omega),if_neg (by omega),if_neg (by omega),if_pos rfl]⟩
 ·intro b hb;simp at hb;subst hb
  exact⟨by omega,by omega,by dsimp only;rw[if_pos e2]⟩
 ·intro b hb
  have:=h1 b hb
  exact⟨by omega,l2 b hb,by dsimp only;rw[if_neg (by omega),if_neg (by omega),if_neg (by omega),if_neg (by omega),if_pos (by omega)]⟩
 ·intro b hb
  have:=h2 b hb
  exact⟨by omega,l3 b hb,by dsimp only;rw[if_neg (by omega),if_neg (by omega),if_neg (by omega),if_neg (by omega),if_neg (by omega)]⟩
 ·intro b hb;simp at hb;subst hb
  exact⟨by omega,by omega,by dsimp only;rw[if_neg (by omega),if_pos (by omega)]⟩
 ·intro b hb;simp at hb;subst hb
  exact⟨by omega,by omega,by dsimp only;rw[if_neg (by omega),if_neg (by omega),if_pos rfl]⟩
set_option maxRecDepth 100000 in
set_option maxHeartbeats 16000000 in
theorem arnew_at {W:World} {sp:Nat} {l:List Nat} {m:V.SpM} (hE:V.Env W) (hm:m.n=256) (hs:V.SpaceAt W sp l m) {g n c:Nat} {T:List Z.Cl} (hT:Z.isTable T) (hR:Z.ReadsC W (some ⟨g,0,none⟩) n T) {room:Int} (h0:0<=room) (h8:room<=8):Calls Tryz.prog 49 #[.slice (some ⟨g,0,none⟩) n c,.pointer (some ⟨sp,0,none⟩),.int .i64 room] W fun e W'=>∃ar:Nat,e=.returned (.tuple #[.pointer (some ⟨ar,0,none⟩),.int .i64 0])/\∃g2 c2,n<=c2/\∃bd hu pm rn,ArB T room sp g2 c2 bd hu pm rn ar n W W':=by
 have hl:=hR.1
 have hn40:n<=40:=by have:=hT.2.1;omega
 have hn1:0<n:=by have:=hT.1;omega
 have CV:=Lib.hid (by have:=Z.Valid_any W (some ⟨g,0,none⟩) n c T hR (by omega);rwa[decide_eq_true hT] at this:Grew Tryz.prog 45 #[.slice (some ⟨g,0,none⟩) n c] W (.bool true))
 have HS:=Lib.hid hs
 have HR:=Lib.hid hR
 have HT:=Lib.hid hT
 have d1:decide (room<0)=false:=decide_eq_false (by omega)
 have d2:decide (room>8)=false:=decide_eq_false (by omega)
 have d3:decide (8<room)=false:=decide_eq_false (by omega)
 have hmm:= @run_makeMap Tryz.prog
 clear hs hR hT
 go_enter Tryz.func49,Tryz.ntmps49
 go_wp2_with fail
 refine Grew.use CV.out (fun W1 ho1=>?_)
 have HO1:=Lib.hid ho1
 have CPg:=Lib.hid (by have:=V.Pages_any (HS.out.only ho1 (by simp));rwa[hm] at this:Still Tryz.prog 61 #[.pointer (some ⟨sp,0,none⟩)] W1 (.int .i64 256))
 clear CV ho1
 go_wp2_with (first|(go_at_call 61;with_reducible refine Still.use CPg.out ?_))
 refine(tclone_at (HR.out.only HO1.out (by simp)) (by omega) hn1).mono ?_
 rintro r W2 ⟨v,rfl,hown,ho2⟩
 obtain⟨g2,c2,rfl,hc2,hg2,hg2l,hR2⟩:=readsC_own HT.out (by rw[hl];exact hown)
 have HO2:=Lib.hid (HO1.out.trans ho2)
 have HR2:=Lib.hid hR2
 have HO1L:Hid (W.heap.size<=g2):=Nat.le_trans HO1.out.size hg2
 clear hown ho2 HO1 hR2 CPg
 go_wp2_with fail
 refine(PNew_any W2).mono ?_
 rintro r W3 ⟨rfl,ho3,hP3⟩
 have HO3:=Lib.hid (HO2.out.trans ho3)
 have HP3:=Lib.hid hP3
 have HO23:=Lib.hid ho3
 clear ho3 hP3
 go_wp2_with fail
 have hbA:=Blk.new (W3.alloc (.map #[] 0)) 140 #[.slice (some ⟨g2,0,none⟩) n c2,.pointer (some ⟨sp,0,none⟩),.pointer none,.pointer none,.pointer (some ⟨W2.heap.size,0,none⟩),.slice none 0 0,.slice none 0 0,.map (some W3.heap.size)]
 rw[World.size_alloc] at hbA
 obtain⟨W4,hW4⟩:∃W4,W4=(W3.alloc (.map #[] 0)).alloc (.cells #[.slice (some ⟨g2,0,none⟩) n c2,.pointer (some ⟨sp,0,none⟩),.pointer none,.pointer none,.pointer (some ⟨W2.heap.size,0,none⟩),.slice none 0 0,.slice none 0 0,.map (some W3.heap.size)] 140):=⟨_,rfl⟩
 have ho4:Only [] W3 W4:=by rw[hW4];exact((Only.refl [] W3).alloc _).alloc _
 have hmp:IMap W4 W3.heap.size (runG fun _=>none) 0:=by
  rw[hW4]
  exact(IMap.made W3).only ((Only.refl [] _).alloc _) (by simp)
 rw[<-hW4] at hbA ⊢
 clear hW4
 refine(bnew_at W4).mono ?_
 rintro r W5 ⟨bd,f1,rfl,ho5,hB5,hf1⟩
 have hbA5:=hbA.only ho5 (by simp)
 have a2:=hbA5.cell_ 2 rfl
 have fr2:=hbA5.frozen 2
 generalize har:W3.heap.size+1=ar at *
 have HAR:=Lib.hid har
 clear har
 have HB5:=Lib.hid hB5
 have HBA:=Lib.hid (hbA5.set_ 2 (.pointer (some ⟨bd,0,none⟩)))
 have HMP:=Lib.hid hmp
 have HO5:=Lib.hid (HO3.out.trans (ho4.trans ho5))
 have HO35:=Lib.hid (ho4.trans ho5)
 have HO45:=Lib.hid ho5
 have HL4:=Lib.hid hbA.lt
 have HL5:=Lib.hid hbA5.lt
 have HF1:=Lib.hid hf1
 clear hbA hbA5 hB5 hmp ho4 ho5 hf1
 go_wp2_with fail
 generalize hW6:W5.setCell ⟨ar,2,none⟩ (.pointer (some ⟨bd,0,none⟩))=W6 at *
 have HW6:=Lib.hid hW6
 refine(HNew_any W6 256 (by decide)).mono ?_
 rintro r W7 ⟨rfl,ho7,hH7⟩
 have hbA7:=HBA.out.only ho7 (by simp)
 have a3:=hbA7.cell_ 3 rfl
 have fr3:=hbA7.frozen 3
 have HH7:=Lib.hid hH7
 have HO7:=Lib.hid ho7
 generalize hhu:W6.heap.size+1=hu at *
 have HHU:=Lib.hid hhu
 clear hhu
 have HBA7:=Lib.hid (hbA7.set_ 3 (.pointer (some ⟨hu,0,none⟩)))
 clear hbA7 hH7 ho7 hW6 a2 fr2
 go_wp2_with fail
 have hz6:W6.heap.size=W5.heap.size:=by rw[<-HW6.out];simp[World.setCell]
 have hx5:Only [ar] W5 (W7.setCell ⟨ar,3,none⟩ (.pointer (some ⟨hu,0,none⟩))):=by
  have h6:Only [ar] W5 W6:=by rw[<-HW6.out];exact(Only.refl [ar] W5).setCell (p:=⟨ar,2,none⟩) (.inl (by simp)) _
  exact(h6.then_ HO7.out (fun b hb=>by cases hb)).setCell (p:=⟨ar,3,none⟩) (.inl (by simp)) _
 have hst:ArB T room sp g2 c2 bd hu W2.heap.size W3.heap.size ar 0 W (W7.setCell ⟨ar,3,none⟩ (.pointer (some ⟨hu,0,none⟩))):=by
  have q1:=HAR.out
  have q2:=HL4.out
  have q3:=HL5.out
  have q4:=HHU.out
  have q5:=HO3.out.size
  have q6:=HO1L.out
  have q7:=(PmSt.framed W2.heap.size).lt HP3.out W2.heap.size (by simp)
  have q8:=(BuSt.framed bd (fun _ _=>false)).lt HB5.out
  have hx3:Only [] W3 (W7.setCell ⟨ar,3,none⟩ (.pointer (some ⟨hu,0,none⟩))):=HO35.out.then_ hx5 (fun b hb=>by simp at hb;subst hb;exact .inr (by omega))
  have hx4:Only [ar] W4 (W7.setCell ⟨ar,3,none⟩ (.pointer (some ⟨hu,0,none⟩))):=(HO45.out.mono (fun b hb=>by cases hb)).then_ hx5 (fun b hb=>.inl hb)
  have hf1:=HF1.out
  refine ArB.start (s2:=W2.heap.size) (s5:=W5.heap.size) ?_ (HR2.out.only (HO23.out.trans hx3) (by simp)) ((BuSt.framed bd (fun _ _=>false)).only HB5.out hx5 (fun b hb e=>?_)) ((HuSt.framed 256 hu (fun _=>0)).only HH7.out ((Only.refl [ar] W7).setCell (p:=⟨ar,3,none⟩) (.inl (by simp)) _) (fun b hb e=>?_)) ((PmSt.framed _).only HP3.out hx3 (by simp)) ⟨⟨0,HMP.out.only hx4 (by simp;omega)⟩,rfl⟩ (HO3.out.trans hx3) q6 hg2l rfl q7 (by omega) (by omega) (fun b hb=>⟨by have:=hf1 b hb;omega,q8 b hb⟩) (fun b hb=>?_)
  ·have:=HBA7.out
   rw[hl]
   exact this
  ·have:=hf1 b hb;simp at e;omega
  ·simp at hb e;omega
  ·simp at hb;omega
 have HST:=Lib.hid hst
 clear hst hx5 hz6 HBA7 HH7 HB5 HMP HP3 HO35 HO45 HL4 HL5 HF1 HO7 HBA a3 fr3
 generalize W7.setCell ⟨ar,3,none⟩ (.pointer (some ⟨hu,0,none⟩))=W8 at *
 generalize W2.heap.size=pm at *
 generalize W3.heap.size=rn at *
 go_loopw[61] (fun t wr=>∃i:Nat,i<=n/\t=.int .i64 i/\ArB T room sp g2 c2 bd hu pm rn ar i W wr) (fun t _=>n-(intOf t).toNat)
 case atStart=>exact⟨0,Nat.zero_le _,rfl,HST.out⟩
 case round=>
  obtain⟨i,hi,rfl,hA⟩:=hrel
  have HA:=Lib.hid hA
  clear hA
  rcases Nat.lt_or_ge i n with hlt|hge
  ·have hlt':(i:Int)<n:=by omega
   obtain⟨ad,e,x0,x1,x2⟩:=(HR.out.only HA.out.o (by simp)).at_ hlt
   injection e with e
   subst e
   rw[add_pl,Nat.zero_add] at x0 x1 x2
   have hok:=(HT.out.2.2 i (by rw[hl];exact hlt)).1
   have HOK:=Lib.hid hok
   obtain⟨vc,vx,xs,ys,Ac0,Ax0,cc0,cx0,rfl,rfl,hap,hnext⟩:=HA.out.next
   have HAPW:=Lib.hid hap
   have HNX:=Lib.hid hnext
   clear hok hap hnext
   generalize Z.cAt T i=cl at *
   go_wp2_with fail
   have hbC:=Blk.new wr 101 #[.int .i64 cl.s,.int .i64 cl.p,.int .i64 cl.b]
   have hoC:Only [] wr (wr.alloc (.cells #[.int .i64 cl.s,.int .i64 cl.p,.int .i64 cl.b] 101)):=(Only.refl [] wr).alloc _
   generalize wr.alloc (.cells #[.int .i64 cl.s,.int .i64 cl.p,.int .i64 cl.b] 101)=Wc at *
   refine(lNew_any Wc ⟨cl.s,cl.p,cl.b⟩).mono ?_
   rintro r Wd ⟨hod,hyes,_⟩
   obtain⟨ce,fc,rfl,hce,hfc⟩:=hyes HOK.out
   have b2:=(hbC.only hod (by simp)).cell_ 2 rfl
   have HOD:=Lib.hid (hoC.trans hod)
   have HCE:=Lib.hid hce
   have HFC:Hid (∀b∈fc,wr.heap.size<=b):=fun b hb=>Nat.le_trans hoC.size (hfc b hb)
   clear hbC hoC hod hyes hce hfc x0 x1 x2
   go_wp2_with fail
   refine(TNew_any Wd cl.b room (by obtain⟨_,_,_,_,_,_,o7,o8⟩:=HOK.out;exact⟨o7,o8⟩) ⟨h0,h8⟩).mono ?_
   rintro r We ⟨rfl,hoe,hTe⟩
   have HOE:=Lib.hid hoe
   have HTE:=Lib.hid hTe
   clear hoe hTe b2
   have HOW:=Lib.hid (HOD.out.trans HOE.out)
   have hap0:=HAPW.out We HOW.out
   have z5:=hap0.b.cell_ 5 rfl
   have z6:=hap0.b.cell_ 6 rfl
   have z5a:=fun t us=>(hap0.alloc t us).b.cell_ 5 rfl
   have z6a:=fun t us=>(hap0.alloc t us).b.cell_ 6 rfl
   have z5b:=fun t us t' us'=>((hap0.alloc t us).alloc t' us').b.cell_ 5 rfl
   have z6b:=fun t us t' us'=>((hap0.alloc t us).alloc t' us').b.cell_ 6 rfl
   have f5:=hap0.b.frozen 5
   have f6:=hap0.b.frozen 6
   have HAP:=Lib.hid hap0
   clear hap0 HAPW
   go_upto_region 14 with fail
   go_region_law (first
    |(go_loud (refine Ap.stepC (We:=We) (base:=W.heap.size) (ar:=ar) (vc:=.slice Ac0 i cc0) (vx:=.slice Ax0 i cx0) (cv:=.slice Ac0 i cc0) (xv:=.slice Ax0 i cx0) (cn:=i) (xn:=i) (u:=.pointer (some ⟨ce,0,none⟩)) (HAP.out.alloc _ _).drew (.tmp 82) (.tmp 84) (by rfl) (by rfl) (by rfl) (by rfl) (by simp) rfl (by omega) ?_);intro v1 w1 hap1;obtain⟨A1,c1,rfl,_⟩:=own_slice hap1.rc;have y6:=hap1.b.cell_ 6 rfl;have y6a:=fun t us=>(hap1.alloc t us).b.cell_ 6 rfl;have HAP1:=Lib.hid hap1;clear hap1)
    |(go_loud (refine Ap.stepC (We:=We) (base:=W.heap.size) (ar:=ar) (vc:=.slice Ac0 i cc0) (vx:=.slice Ax0 i cx0) (cv:=.slice Ac0 i cc0) (xv:=.slice Ax0 i cx0) (cn:=i) (xn:=i) (u:=.pointer (some ⟨ce,0,none⟩)) ((HAP.out.alloc _ _).alloc _ _).drew (.tmp 82) (.tmp 84) (by rfl) (by rfl) (by rfl) (by rfl) (by simp) rfl (by omega) ?_);intro v1 w1 hap1;obtain⟨A1,c1,rfl,_⟩:=own_slice hap1.rc;have y6:=hap1.b.cell_ 6 rfl;have y6a:=fun t us=>(hap1.alloc t us).b.cell_ 6 rfl;have HAP1:=Lib.hid hap1;clear hap1)
    |(go_loud (refine Ap.stepX (We:=We) (base:=W.heap.size) (ar:=ar) (vc:=.slice Ac0 i cc0) (vx:=.slice Ax0 i cx0) (cv:=.slice A1 (i+1) c1) (xv:=.slice Ax0 i cx0) (cn:=i+1) (xn:=i) (u:=.pointer (some ⟨Wd.heap.size,0,none⟩)) HAP1.out (.tmp 89) (.tmp 91) (by rfl) (by rfl) (by rfl) (by rfl) (by simp) rfl (by omega) ?_);intro v2 w2 hap2;obtain⟨A2,c3,rfl,_⟩:=own_slice hap2.rx;have y5:=hap2.b.cell_ 5 rfl;have y6:=hap2.b.cell_ 6 rfl;have g5:=hap2.b.frozen 5;have g6:=hap2.b.frozen 6;have HAP2:=Lib.hid hap2;clear hap2)
    |(go_loud (refine Ap.stepX (We:=We) (base:=W.heap.size) (ar:=ar) (vc:=.slice Ac0 i cc0) (vx:=.slice Ax0 i cx0) (cv:=.slice A1 (i+1) c1) (xv:=.slice Ax0 i cx0) (cn:=i+1) (xn:=i) (u:=.pointer (some ⟨Wd.heap.size,0,none⟩)) (HAP1.out.alloc _ _) (.tmp 89) (.tmp 91) (by rfl) (by rfl) (by rfl) (by rfl) (by simp) rfl (by omega) ?_);intro v2 w2 hap2;obtain⟨A2,c3,rfl,_⟩:=own_slice hap2.rx;have y5:=hap2.b.cell_ 5 rfl;have y6:=hap2.b.cell_ 6 rfl;have g5:=hap2.b.frozen 5;have g6:=hap2.b.frozen 6;have HAP2:=Lib.hid hap2;clear hap2))
   all_goals
    have hend:=HNX.out Wd We _ _ _ _ _ _ _ _ HOD.out HOE.out HCE.out (fun b hb=>HFC.out b hb) HTE.out (fun b hb=>by simp at hb;omega) ((HAP2.out.store 5 (.slice A1 (i+1) c1)).store 6 (.slice A2 (i+1) c3))
    have HEND:=Lib.hid hend
    clear hend
    go_wp2_with fail
    exact⟨⟨i+1,by omega,by go_num,HEND.out⟩,by show n-((i:Int)+1).toNat<n-(i:Int).toNat;omega⟩
  ·have hlt':¬((i:Int)<n):=by omega
   have e:i=n:=by omega
   subst e
   go_wp2_with fail
   go_ret2
   exact⟨ar,rfl,g2,c2,by rw[<-hl];exact hc2,bd,hu,pm,rn,HA.out⟩
end Go.Proofs.YtcidjimefnhacaaGreatDoor
