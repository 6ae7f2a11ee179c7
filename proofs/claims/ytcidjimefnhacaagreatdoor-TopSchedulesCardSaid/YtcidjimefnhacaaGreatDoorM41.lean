/- TopSchedules, a part of the proof: Rq, Rr, Rs, Rsb. -/
import Derived.Test.YtcidjimefnhacaaGreatDoorM40
import Derived.Deep.DeepCutAuto
import Derived.Test.YtcidjimefnhacaaGreatDoorM38
import Derived.RangeFuncNested
import Derived.RangeFuncBound
import Derived.RangeFuncBox
import Derived.RangeFuncCalls
import Derived.RangeFuncLeaves
import Derived.Shelf.Abstract
import Derived.Shelf.RegionOpen
import Derived.OwnWalkIn
import Derived.TacticsInMore
import Derived.LoopNIn
import Derived.LoopIn
set_option linter.unusedVariables false
set_option linter.unusedSimpArgs false
namespace Go.Proofs.YtcidjimefnhacaaGreatDoor
open Go.RowKit
set_option maxRecDepth 100000 in
set_option maxHeartbeats 16000000 in
theorem rstep_malloc {P:Hp} {Q:RP} {pr:Nat->List Ac} {R:RS} {S:HS} {who:Who} {w W:World} {FP:List Nat} {bx:List (Nat×TypeId×Array Value)} (h:Ctx P S w FP (RunRec P Q pr R) bx W) (hI:Inv P S who) {t:Nat} (ht:t<P.nt) (h3:P.nt<=3) {p:Ph} (hp:S.ph t=p) (hn:p≠ .none) {a:Ac} (ha:a.Ok t) (hk:a.k=0) (hat:(pr t)[R.bg t-1]? =some a) (hb1:1<=R.bg t) (hb:R.bg t<=40) (hl:R.ev.length<=5000) (hlp:(pr t).length<=32) (hbz:R.bz t=true):
 Calls Tryz.prog 56 #[.pointer (some ⟨Q.p,0,none⟩),.int .i64 t] W fun e W'=>e=.returned (.tuple #[])/\∃S1 p' x er,PStep P S t p S1 p' (x,er)/\((p'≠ .none/\Ctx P (S1.phs t p') w FP (RunRec P Q pr R) bx W')\/(p'=.none/\Ctx P (S1.phs t .none) w FP (RunRec P Q pr (R.fin t a x er)) bx W')):=by
 obtain⟨sn,_⟩:=ha.sn
 obtain⟨hs1,hs2⟩:=ha.s
 obtain⟨s,hs'⟩:∃s:Nat,a.s=s:=⟨a.s.toNat,sn.symm⟩
 have es:a.s.toNat=s:=by omega
 have hs16:(s:Int)<16:=by omega
 have ht4:t<4:=by omega
 have ht4':(t:Int)<4:=by omega
 obtain⟨ak,a_s,az,aal,aw,av⟩:=a
 dsimp only at hs' es hs1 hs2 sn hk
 subst hk
 subst hs'
 clear sn ha
 obtain⟨k,hkb⟩:∃k,R.bg t=k+1:=⟨R.bg t-1,by omega⟩
 have FR:=fun R=>RunRec.framed P Q pr R
 have hc1:=h.push (FR R) #[.int .i64 t] 3
 have CT:=Lib.hid (fun (W1:World) (bx':List (Nat×TypeId×Array Value)) (hh:Ctx P S w FP (RunRec P Q pr R) bx' W1)=>hh.call (f:=69) (args:=#[.pointer (some ⟨P.h,0,none⟩),.int .i64 t]) (α:=HS×Ph×Int×Int) (R:=fun x e=>e=.returned (.tuple #[.bool x.2.1.isN,.agg #[.int .i64 x.2.2.1,.int .i64 x.2.2.2],.int .i64 0])/\PStep P S t p x.1 x.2.1 (x.2.2.1,x.2.2.2)) (S':=fun x=>x.1.phs t x.2.1) (FR R) (fun FPc hs=>(hStep_at hs hI ht hp hn).mono (fun e w' ⟨S',p',x,er,q1,q2,q3⟩=>⟨(S',p',x,er),⟨q2,q1⟩,q3⟩)))
 obtain⟨_,_,_,_,hrc,_⟩:=hc1.rcells
 have z0:=hrc.c0
 have x0:=(bxCell hc1 (mcs ..) 0 rfl).1
 have hc1d:=hc1.still (FR R) ((Only.refl [] _).drew)
 have hc2:Ctx P S w FP (RunRec P Q pr R) (((W.alloc (.cells #[.int .i64 t] 3)).heap.size,66,#[.int .i64 0,.int .i64 0])::(W.heap.size,3,#[.int .i64 t])::bx) _:=hc1d.push (FR R) #[.int .i64 0,.int .i64 0] 66
 have hc2n:=hc1.push (FR R) #[.int .i64 0,.int .i64 0] 66
 obtain⟨_,_,_,_,hrc2,_⟩:=hc2n.rcells
 have z0':=hrc2.c0
 have x0':=(bxCell hc2n (mcm _ (mcs ..)) 0 rfl).1
 have hWH:w.heap.size<=(W.alloc (.cells #[.int .i64 t] 3)).heap.size:=hc1.only.size
 have HNB:Hid (∀z∈(W.heap.size,3,#[Value.int .i64 t])::bx,z.1≠(W.alloc (.cells #[.int .i64 t] 3)).heap.size):=fun z hz e=>by have:=(hc1.box hz).lt;omega
 clear hrc hrc2 hc2n
 have HAT:=Lib.hid hat
 have HPN:=Lib.hid (And.intro hp hn)
 clear hat hp hn h
 go_enter Tryz.func56,Tryz.ntmps56
 go_upto_region 1 with fail
 go_cut [4,5,6] (fun s4 s5 s6 wx=>∃(S1:HS) (p':Ph) (x er:Int) (H2:Nat),s4=.bool p'.isN/\s5=.pointer (some ⟨H2,0,none⟩)/\PStep P S t p S1 p' (x,er)/\Ctx P (S1.phs t p') w FP (RunRec P Q pr R) ((H2,66,#[.int .i64 x,.int .i64 er])::(W.heap.size,3,#[.int .i64 t])::bx) wx)
 case first=>
  go_wp2_with fail
  generalize W.alloc (.cells #[.int .i64 t] 3)=W1 at *
  go_region_law (first
   |(go_simp;go_at_call 69;refine(CT.out _ _ hc1d).mono ?_;rintro _ wM ⟨⟨S1,p',x,er⟩,⟨rfl,hps⟩,hbM⟩;dsimp only at hps hbM;have hZ:=hbM.push (FR R) #[.int .i64 x,.int .i64 er] 66)
   |(go_simp;go_at_call 69;refine(CT.out _ _ hc2).mono ?_;rintro _ wM ⟨⟨S1,p',x,er⟩,⟨rfl,hps⟩,hbM⟩;dsimp only at hps hbM;obtain⟨r0,f0⟩:=bxCell hbM (mcs ..) 0 rfl;obtain⟨r1,f1⟩:=bxCell hbM (mcs ..) 1 rfl;have hZ:=hbM.resL (FR R) (mcs ..) hWH ((W.heap.size,3,#[.int .i64 t])::bx) (fun z hz=>⟨mcm _ hz,HNB.out z hz⟩) x er))
  all_goals (go_wp2_with fail;go_meet;exact⟨S1,p',x,er,_,rfl,rfl,hps,hZ⟩)
 case rest=>
 obtain⟨S1,p',x,er,H2,rfl,rfl,hps,hY⟩:=hcut
 clear hc1 hc1d hc2 CT z0 x0 z0' x0'
 have HPS:=Lib.hid hps
 clear hps
 generalize hWZ:wc=WZ at *
 clear hWZ
 have x0:=(bxCell hY (mcm _ (mcs ..)) 0 rfl).1
 obtain⟨_,_,_,_,hrY,_⟩:=hY.rcells
 have zz:=hrY.bz t ht4
 have zg:=hrY.fz (26+t)
 rw[hbz] at zz
 have HY:=Lib.hid hY
 clear hY hrY
 cases hN:p'.isN with
 |false=>
  have HQ:Hid (p'≠ .none):=fun e=>by rw[e] at hN;cases hN
  clear hN
  go_wp2_with fail
  go_quiet (fail)
  go_wp2_with fail
  refine bodyPost_ret (results_none rfl _ _ _) rfl ?_
  exact⟨rfl,S1,p',x,er,HPS.out,.inl ⟨HQ.out,(HY.out.still (FR R) ((Only.refl [] _).drewN _)).less (fun x hx=>mcm _ (mcm _ hx))⟩⟩
 |true=>
  have HPN2:Hid (p'=.none):=by cases p'<;>first|rfl|cases hN
  clear hN
  go_wp2_with fail
  go_quiet (fail)
  have hYq:=HY.out.still (FR R) ((Only.refl [] _).drewN nq)
  generalize World.drewN WZ nq=Wq at *
  obtain⟨_,_,_,_,hrY,_⟩:=hYq.rcells
  clear zz zg x0
  have zz:=hrY.bz t ht4
  have zg:=hrY.fz (26+t)
  have x0:=(bxCell hYq (mcm _ (mcs ..)) 0 rfl).1
  have hca:=(hYq.setRun (R':={R with bz:=upd R.bz t false}) (26+t) (.bool false) rfl (fun v k _=>runF_bz t ht4 false k)).still (FR _) ((Only.refl [] _).drew)
  clear HY hYq hrY
  go_wp2_with fail
  go_region
  generalize World.drew (World.setCell Wq ⟨Q.p,26+t,none⟩ (.bool false))=Wa at *
  clear zz zg x0
  go_upto_region 4 with fail
  go_cut [7] (fun s7 wx=>∃H3:Nat,s7=.pointer (some ⟨H3,0,none⟩)/\Ctx P (S1.phs t p') w FP (RunRec P Q pr {R with bz:=upd R.bz t false}) ((H3,50,#[.int .i64 0,.int .i64 (s:Nat),.int .i64 az,.int .i64 aal,.int .i64 aw,.int .i64 av])::((H2,66,#[.int .i64 x,.int .i64 er])::(W.heap.size,3,#[.int .i64 t])::bx)) wx)
  case first=>
   have hcp:=hca.push (FR _) #[.int .i64 0,.int .i64 (s:Nat),.int .i64 az,.int .i64 aal,.int .i64 aw,.int .i64 av] 50
   have key:∀(bx':List (Nat×TypeId×Array Value)) (W1:World),Ctx P (S1.phs t p') w FP (RunRec P Q pr {R with bz:=upd R.bz t false}) bx' W1->∃(A1:Option Addr) (c1 g off:Nat),A1=some ⟨g,off,none⟩/\(pr t).length<=c1/\k<(pr t).length/\Q.pv t=.slice A1 (pr t).length c1/\W1.cell? ⟨Q.p,1,none⟩=some (.slice (some ⟨Q.gp,0,none⟩) P.nt Q.cp)/\P.nt<=Q.cp/\W1.cell? ⟨Q.p,18+t,none⟩=some (.int .i64 ((k:Int)+1))/\W1.cell? ⟨Q.gp,t,none⟩=some (.slice A1 (pr t).length c1)/\
    W1.cell? ⟨g,off+k*6,none⟩=some (.int .i64 0)/\W1.cell? ⟨g,off+k*6+1,none⟩=some (.int .i64 (s:Nat))/\W1.cell? ⟨g,off+k*6+2,none⟩=some (.int .i64 az)/\W1.cell? ⟨g,off+k*6+3,none⟩=some (.int .i64 aal)/\W1.cell? ⟨g,off+k*6+4,none⟩=some (.int .i64 aw)/\W1.cell? ⟨g,off+k*6+5,none⟩=some (.int .i64 av):=by
    intro bx' W1 hh
    obtain⟨_,_,_,_,hr1,_,hcp⟩:=hh.rcells
    obtain⟨A1,c1,p1,p2,p3,p4⟩:=hh.rprog ht
    have hat':(pr t)[k]? =some ⟨0,(s:Nat),az,aal,aw,av⟩:=by have:=HAT.out;rw[hkb,Nat.add_sub_cancel] at this;exact this
    obtain⟨g,off,rfl,p5⟩:=p4 k _ hat'
    have zb:=hr1.bg t ht4
    rw[show({R with bz:=upd R.bz t false}:RS).bg t=k+1 from hkb] at zb
    exact⟨_,c1,g,off,rfl,p3,(List.getElem?_eq_some_iff.1 hat').1,p2,hr1.c1,hcp,zb,p1,p5 0 _ rfl,p5 1 _ rfl,p5 2 _ rfl,p5 3 _ rfl,p5 4 _ rfl,p5 5 _ rfl⟩
   obtain⟨A1,c1,g,off,hA1,hle,hkl,e1,m0,m1,m2,m3,a0,a1,a2,a3,a4,a5⟩:=key _ _ hca
   have hcz:=hca.push (FR _) #[.int .i64 0,.int .i64 0,.int .i64 0,.int .i64 0,.int .i64 0,.int .i64 0] 50
   obtain⟨A2,c2,g2,off2,hA2,_,_,e2,n0,n1,n2,n3,b0,b1,b2,b3,b4,b5⟩:=key _ _ hcz
   rw[e1] at e2
   injection e2 with e2 _ e3
   subst e3
   rw[hA1,hA2] at e2
   injection e2 with e2
   injection e2 with e2 e4 _
   subst e2 e4 hA1 hA2
   have x0:=(bxCell hca (mcm _ (mcs ..)) 0 rfl).1
   have x0':=(bxCell hcz (mcm _ (mcm _ (mcs ..))) 0 rfl).1
   clear key hcz
   have HCP:=Lib.hid hcp
   clear hcp hca
   generalize (pr t).length=n at *
   generalize P.nt=nt at *
   go_wp2_with fail
   go_region
   all_goals (go_wp2_with fail;go_meet;exact⟨_,rfl,HCP.out.still (FR _) ((Only.refl [] _).drew)⟩)
  case rest=>
  obtain⟨H3,rfl,hcb⟩:=hcut
  clear hca
  generalize hWb:wc=Wb at *
  clear hWb
  have y0:=(bxCell hcb (mcs ..) 0 rfl).1
  have y1:=(bxCell hcb (mcs ..) 1 rfl).1
  have y2:=(bxCell hcb (mcs ..) 2 rfl).1
  have y3:=(bxCell hcb (mcs ..) 3 rfl).1
  have y4:=(bxCell hcb (mcs ..) 4 rfl).1
  have y5:=(bxCell hcb (mcs ..) 5 rfl).1
  have CO:=rop_at Wb ⟨0,(s:Nat),az,aal,aw,av⟩
  rw[show opA ⟨0,(s:Nat),az,aal,aw,av⟩=⟨0,az,aal,0⟩ from if_pos rfl] at CO
  unfold Op4.val Ac.val at CO
  dsimp only at CO
  have HCB:=Lib.hid hcb
  have HCO:=Lib.hid CO
  clear hcb CO
  go_wp2_with fail
  refine Grew.use HCO.out (fun Wc hob=>?_)
  have hcc:=(HCB.out.still (FR _) hob).push (FR _) #[.int .i64 0,.int .i64 az,.int .i64 aal,.int .i64 0] 64
  clear y0 y1 y2 y3 y4 y5 HCB HCO
  have y0:=(bxCell hcc (mcm _ (mcs ..)) 0 rfl).1
  have y1:=(bxCell hcc (mcm _ (mcs ..)) 1 rfl).1
  have v0:=(bxCell hcc (mcm _ (mcm _ (mcs ..))) 0 rfl).1
  have v1:=(bxCell hcc (mcm _ (mcm _ (mcs ..))) 1 rfl).1
  have u0:=(bxCell hcc (mcm _ (mcm _ (mcm _ (mcs ..)))) 0 rfl).1
  have HCC:=Lib.hid hcc
  obtain⟨_,_,_,_,hrd,_⟩:=hcc.rcells
  have zs:=hrd.sl s (by omega)
  have zf:=hrd.fz (2+s)
  clear hcc hrd
  go_wp2_with fail
  generalize hH4:Wc.heap.size=H4 at *
  generalize Wc.alloc (.cells #[.int .i64 0,.int .i64 az,.int .i64 aal,.int .i64 0] 64)=Wd at *
  go_region
  have hce:=(HCC.out.setRun (R':={{R with bz:=upd R.bz t false} with sl:=upd R.sl s x}) (2+s) (.int .i64 x) rfl (fun v k _=>runF_sl s (by omega) x k)).still (FR _) ((Only.refl [] _).drew)
  generalize World.drew (World.setCell Wd ⟨Q.p,2+s,none⟩ (.int .i64 x))=We at *
  clear y0 y1 v0 v1 u0 zs zf HCC
  have y0:=(bxCell hce (mcs ..) 0 rfl).1
  have y1:=(bxCell hce (mcs ..) 1 rfl).1
  have y2:=(bxCell hce (mcs ..) 2 rfl).1
  have y3:=(bxCell hce (mcs ..) 3 rfl).1
  have v0:=(bxCell hce (mcm _ (mcm _ (mcs ..))) 0 rfl).1
  have v1:=(bxCell hce (mcm _ (mcm _ (mcs ..))) 1 rfl).1
  have u0:=(bxCell hce (mcm _ (mcm _ (mcm _ (mcs ..)))) 0 rfl).1
  have HCE:=Lib.hid hce
  clear hce
  go_wp2_with fail
  refine(revent_e HCE.out ht4 (by show R.bg t<=100;omega) (by show R.ev.length<=10000;omega) ⟨0,az,aal,0⟩ x er).mono ?_
  rintro r Wz ⟨rfl,hcz⟩
  go_wp2_with fail
  go_end0
  refine⟨rfl,S1,p',x,er,HPS.out,.inr ⟨HPN2.out,?_⟩⟩
  have e:R.fin t ⟨0,(s:Nat),az,aal,aw,av⟩ x er=RS.evt {{R with bz:=upd R.bz t false} with sl:=upd R.sl s x} t true ⟨0,az,aal,0⟩ x er:=by
   unfold RS.fin RS.evt opE opA
   dsimp only
   rw[if_pos rfl,es]
   simp
  rw[e]
  have h9:=hcz.less (bx':=bx) (fun x hx=>mcm _ (mcm _ (mcm _ (mcm _ hx))))
  rw[HPN2.out] at h9
  exact h9
set_option maxRecDepth 100000 in
set_option maxHeartbeats 16000000 in
theorem rstep_flush {P:Hp} {Q:RP} {pr:Nat->List Ac} {R:RS} {S:HS} {who:Who} {w W:World} {FP:List Nat} {bx:List (Nat×TypeId×Array Value)} (h:Ctx P S w FP (RunRec P Q pr R) bx W) (hI:Inv P S who) {t:Nat} (ht:t<P.nt) (h3:P.nt<=3) {p:Ph} (hp:S.ph t=p) (hn:p≠ .none) {a:Ac} (ha:a.Ok t) (hk:a.k=2) (hat:(pr t)[R.bg t-1]? =some a) (hb1:1<=R.bg t) (hb:R.bg t<=40) (hl:R.ev.length<=5000) (hlp:(pr t).length<=32) (hbz:R.bz t=true):
 Calls Tryz.prog 56 #[.pointer (some ⟨Q.p,0,none⟩),.int .i64 t] W fun e W'=>e=.returned (.tuple #[])/\∃S1 p' x er,PStep P S t p S1 p' (x,er)/\((p'≠ .none/\Ctx P (S1.phs t p') w FP (RunRec P Q pr R) bx W')\/(p'=.none/\Ctx P (S1.phs t .none) w FP (RunRec P Q pr (R.fin t a x er)) bx W')):=by
 obtain⟨sn,_⟩:=ha.sn
 obtain⟨hs1,hs2⟩:=ha.s
 obtain⟨s,hs'⟩:∃s:Nat,a.s=s:=⟨a.s.toNat,sn.symm⟩
 have es:a.s.toNat=s:=by omega
 have hs16:(s:Int)<16:=by omega
 have ht4:t<4:=by omega
 have ht4':(t:Int)<4:=by omega
 obtain⟨ak,a_s,az,aal,aw,av⟩:=a
 dsimp only at hs' es hs1 hs2 sn hk
 subst hk
 subst hs'
 clear sn ha
 obtain⟨k,hkb⟩:∃k,R.bg t=k+1:=⟨R.bg t-1,by omega⟩
 have FR:=fun R=>RunRec.framed P Q pr R
 have hc1:=h.push (FR R) #[.int .i64 t] 3
 have CT:=Lib.hid (fun (W1:World) (bx':List (Nat×TypeId×Array Value)) (hh:Ctx P S w FP (RunRec P Q pr R) bx' W1)=>hh.call (f:=69) (args:=#[.pointer (some ⟨P.h,0,none⟩),.int .i64 t]) (α:=HS×Ph×Int×Int) (R:=fun x e=>e=.returned (.tuple #[.bool x.2.1.isN,.agg #[.int .i64 x.2.2.1,.int .i64 x.2.2.2],.int .i64 0])/\PStep P S t p x.1 x.2.1 (x.2.2.1,x.2.2.2)) (S':=fun x=>x.1.phs t x.2.1) (FR R) (fun FPc hs=>(hStep_at hs hI ht hp hn).mono (fun e w' ⟨S',p',x,er,q1,q2,q3⟩=>⟨(S',p',x,er),⟨q2,q1⟩,q3⟩)))
 obtain⟨_,_,_,_,hrc,_⟩:=hc1.rcells
 have z0:=hrc.c0
 have x0:=(bxCell hc1 (mcs ..) 0 rfl).1
 have hc1d:=hc1.still (FR R) ((Only.refl [] _).drew)
 have hc2:Ctx P S w FP (RunRec P Q pr R) (((W.alloc (.cells #[.int .i64 t] 3)).heap.size,66,#[.int .i64 0,.int .i64 0])::(W.heap.size,3,#[.int .i64 t])::bx) _:=hc1d.push (FR R) #[.int .i64 0,.int .i64 0] 66
 have hc2n:=hc1.push (FR R) #[.int .i64 0,.int .i64 0] 66
 obtain⟨_,_,_,_,hrc2,_⟩:=hc2n.rcells
 have z0':=hrc2.c0
 have x0':=(bxCell hc2n (mcm _ (mcs ..)) 0 rfl).1
 have hWH:w.heap.size<=(W.alloc (.cells #[.int .i64 t] 3)).heap.size:=hc1.only.size
 have HNB:Hid (∀z∈(W.heap.size,3,#[Value.int .i64 t])::bx,z.1≠(W.alloc (.cells #[.int .i64 t] 3)).heap.size):=fun z hz e=>by have:=(hc1.box hz).lt;omega
 clear hrc hrc2 hc2n
 have HAT:=Lib.hid hat
 have HPN:=Lib.hid (And.intro hp hn)
 clear hat hp hn h
 go_enter Tryz.func56,Tryz.ntmps56
 go_upto_region 1 with fail
 go_cut [4,5,6] (fun s4 s5 s6 wx=>∃(S1:HS) (p':Ph) (x er:Int) (H2:Nat),s4=.bool p'.isN/\s5=.pointer (some ⟨H2,0,none⟩)/\PStep P S t p S1 p' (x,er)/\Ctx P (S1.phs t p') w FP (RunRec P Q pr R) ((H2,66,#[.int .i64 x,.int .i64 er])::(W.heap.size,3,#[.int .i64 t])::bx) wx)
 case first=>
  go_wp2_with fail
  generalize W.alloc (.cells #[.int .i64 t] 3)=W1 at *
  go_region_law (first
   |(go_simp;go_at_call 69;refine(CT.out _ _ hc1d).mono ?_;rintro _ wM ⟨⟨S1,p',x,er⟩,⟨rfl,hps⟩,hbM⟩;dsimp only at hps hbM;have hZ:=hbM.push (FR R) #[.int .i64 x,.int .i64 er] 66)
   |(go_simp;go_at_call 69;refine(CT.out _ _ hc2).mono ?_;rintro _ wM ⟨⟨S1,p',x,er⟩,⟨rfl,hps⟩,hbM⟩;dsimp only at hps hbM;obtain⟨r0,f0⟩:=bxCell hbM (mcs ..) 0 rfl;obtain⟨r1,f1⟩:=bxCell hbM (mcs ..) 1 rfl;have hZ:=hbM.resL (FR R) (mcs ..) hWH ((W.heap.size,3,#[.int .i64 t])::bx) (fun z hz=>⟨mcm _ hz,HNB.out z hz⟩) x er))
  all_goals (go_wp2_with fail;go_meet;exact⟨S1,p',x,er,_,rfl,rfl,hps,hZ⟩)
 case rest=>
 obtain⟨S1,p',x,er,H2,rfl,rfl,hps,hY⟩:=hcut
 clear hc1 hc1d hc2 CT z0 x0 z0' x0'
 have HPS:=Lib.hid hps
 clear hps
 generalize hWZ:wc=WZ at *
 clear hWZ
 have x0:=(bxCell hY (mcm _ (mcs ..)) 0 rfl).1
 obtain⟨_,_,_,_,hrY,_⟩:=hY.rcells
 have zz:=hrY.bz t ht4
 have zg:=hrY.fz (26+t)
 rw[hbz] at zz
 have HY:=Lib.hid hY
 clear hY hrY
 cases hN:p'.isN with
 |false=>
  have HQ:Hid (p'≠ .none):=fun e=>by rw[e] at hN;cases hN
  clear hN
  go_wp2_with fail
  go_quiet (fail)
  go_wp2_with fail
  refine bodyPost_ret (results_none rfl _ _ _) rfl ?_
  exact⟨rfl,S1,p',x,er,HPS.out,.inl ⟨HQ.out,(HY.out.still (FR R) ((Only.refl [] _).drewN _)).less (fun x hx=>mcm _ (mcm _ hx))⟩⟩
 |true=>
  have HPN2:Hid (p'=.none):=by cases p'<;>first|rfl|cases hN
  clear hN
  go_wp2_with fail
  go_quiet (fail)
  have hYq:=HY.out.still (FR R) ((Only.refl [] _).drewN nq)
  generalize World.drewN WZ nq=Wq at *
  obtain⟨_,_,_,_,hrY,_⟩:=hYq.rcells
  clear zz zg x0
  have zz:=hrY.bz t ht4
  have zg:=hrY.fz (26+t)
  have x0:=(bxCell hYq (mcm _ (mcs ..)) 0 rfl).1
  have hca:=(hYq.setRun (R':={R with bz:=upd R.bz t false}) (26+t) (.bool false) rfl (fun v k _=>runF_bz t ht4 false k)).still (FR _) ((Only.refl [] _).drew)
  clear HY hYq hrY
  go_wp2_with fail
  go_region
  generalize World.drew (World.setCell Wq ⟨Q.p,26+t,none⟩ (.bool false))=Wa at *
  clear zz zg x0
  go_upto_region 4 with fail
  go_cut [7] (fun s7 wx=>∃H3:Nat,s7=.pointer (some ⟨H3,0,none⟩)/\Ctx P (S1.phs t p') w FP (RunRec P Q pr {R with bz:=upd R.bz t false}) ((H3,50,#[.int .i64 2,.int .i64 (s:Nat),.int .i64 az,.int .i64 aal,.int .i64 aw,.int .i64 av])::((H2,66,#[.int .i64 x,.int .i64 er])::(W.heap.size,3,#[.int .i64 t])::bx)) wx)
  case first=>
   have hcp:=hca.push (FR _) #[.int .i64 2,.int .i64 (s:Nat),.int .i64 az,.int .i64 aal,.int .i64 aw,.int .i64 av] 50
   have key:∀(bx':List (Nat×TypeId×Array Value)) (W1:World),Ctx P (S1.phs t p') w FP (RunRec P Q pr {R with bz:=upd R.bz t false}) bx' W1->∃(A1:Option Addr) (c1 g off:Nat),A1=some ⟨g,off,none⟩/\(pr t).length<=c1/\k<(pr t).length/\Q.pv t=.slice A1 (pr t).length c1/\W1.cell? ⟨Q.p,1,none⟩=some (.slice (some ⟨Q.gp,0,none⟩) P.nt Q.cp)/\P.nt<=Q.cp/\W1.cell? ⟨Q.p,18+t,none⟩=some (.int .i64 ((k:Int)+1))/\W1.cell? ⟨Q.gp,t,none⟩=some (.slice A1 (pr t).length c1)/\
    W1.cell? ⟨g,off+k*6,none⟩=some (.int .i64 2)/\W1.cell? ⟨g,off+k*6+1,none⟩=some (.int .i64 (s:Nat))/\W1.cell? ⟨g,off+k*6+2,none⟩=some (.int .i64 az)/\W1.cell? ⟨g,off+k*6+3,none⟩=some (.int .i64 aal)/\W1.cell? ⟨g,off+k*6+4,none⟩=some (.int .i64 aw)/\W1.cell? ⟨g,off+k*6+5,none⟩=some (.int .i64 av):=by
    intro bx' W1 hh
    obtain⟨_,_,_,_,hr1,_,hcp⟩:=hh.rcells
    obtain⟨A1,c1,p1,p2,p3,p4⟩:=hh.rprog ht
    have hat':(pr t)[k]? =some ⟨2,(s:Nat),az,aal,aw,av⟩:=by have:=HAT.out;rw[hkb,Nat.add_sub_cancel] at this;exact this
    obtain⟨g,off,rfl,p5⟩:=p4 k _ hat'
    have zb:=hr1.bg t ht4
    rw[show({R with bz:=upd R.bz t false}:RS).bg t=k+1 from hkb] at zb
    exact⟨_,c1,g,off,rfl,p3,(List.getElem?_eq_some_iff.1 hat').1,p2,hr1.c1,hcp,zb,p1,p5 0 _ rfl,p5 1 _ rfl,p5 2 _ rfl,p5 3 _ rfl,p5 4 _ rfl,p5 5 _ rfl⟩
   obtain⟨A1,c1,g,off,hA1,hle,hkl,e1,m0,m1,m2,m3,a0,a1,a2,a3,a4,a5⟩:=key _ _ hca
   have hcz:=hca.push (FR _) #[.int .i64 0,.int .i64 0,.int .i64 0,.int .i64 0,.int .i64 0,.int .i64 0] 50
   obtain⟨A2,c2,g2,off2,hA2,_,_,e2,n0,n1,n2,n3,b0,b1,b2,b3,b4,b5⟩:=key _ _ hcz
   rw[e1] at e2
   injection e2 with e2 _ e3
   subst e3
   rw[hA1,hA2] at e2
   injection e2 with e2
   injection e2 with e2 e4 _
   subst e2 e4 hA1 hA2
   have x0:=(bxCell hca (mcm _ (mcs ..)) 0 rfl).1
   have x0':=(bxCell hcz (mcm _ (mcm _ (mcs ..))) 0 rfl).1
   clear key hcz
   have HCP:=Lib.hid hcp
   clear hcp hca
   generalize (pr t).length=n at *
   generalize P.nt=nt at *
   go_wp2_with fail
   go_region
   all_goals (go_wp2_with fail;go_meet;exact⟨_,rfl,HCP.out.still (FR _) ((Only.refl [] _).drew)⟩)
  case rest=>
  obtain⟨H3,rfl,hcb⟩:=hcut
  clear hca
  generalize hWb:wc=Wb at *
  clear hWb
  have y0:=(bxCell hcb (mcs ..) 0 rfl).1
  have y1:=(bxCell hcb (mcs ..) 1 rfl).1
  have y2:=(bxCell hcb (mcs ..) 2 rfl).1
  have y3:=(bxCell hcb (mcs ..) 3 rfl).1
  have y4:=(bxCell hcb (mcs ..) 4 rfl).1
  have y5:=(bxCell hcb (mcs ..) 5 rfl).1
  have CO:=rop_at Wb ⟨2,(s:Nat),az,aal,aw,av⟩
  rw[show opA ⟨2,(s:Nat),az,aal,aw,av⟩=⟨2,0,0,0⟩ from rfl] at CO
  unfold Op4.val Ac.val at CO
  dsimp only at CO
  have HCB:=Lib.hid hcb
  have HCO:=Lib.hid CO
  clear hcb CO
  go_wp2_with fail
  refine Grew.use HCO.out (fun Wc hob=>?_)
  have hcc:=(HCB.out.still (FR _) hob).push (FR _) #[.int .i64 2,.int .i64 0,.int .i64 0,.int .i64 0] 64
  clear y0 y1 y2 y3 y4 y5 HCB HCO
  have y0:=(bxCell hcc (mcm _ (mcs ..)) 0 rfl).1
  have y1:=(bxCell hcc (mcm _ (mcs ..)) 1 rfl).1
  have v0:=(bxCell hcc (mcm _ (mcm _ (mcs ..))) 0 rfl).1
  have v1:=(bxCell hcc (mcm _ (mcm _ (mcs ..))) 1 rfl).1
  have u0:=(bxCell hcc (mcm _ (mcm _ (mcm _ (mcs ..)))) 0 rfl).1
  have HCC:=Lib.hid hcc
  obtain⟨_,_,_,_,hrd,_⟩:=hcc.rcells
  have zs:=hrd.sl s (by omega)
  have zf:=hrd.fz (2+s)
  clear hcc hrd
  go_wp2_with fail
  refine(revent_e HCC.out ht4 (by show R.bg t<=100;omega) (by show R.ev.length<=10000;omega) ⟨2,0,0,0⟩ x er).mono ?_
  rintro r Wz ⟨rfl,hcz⟩
  go_wp2_with fail
  go_end0
  refine⟨rfl,S1,p',x,er,HPS.out,.inr ⟨HPN2.out,?_⟩⟩
  have e:R.fin t ⟨2,(s:Nat),az,aal,aw,av⟩ x er=RS.evt {R with bz:=upd R.bz t false} t true ⟨2,0,0,0⟩ x er:=by
   unfold RS.fin RS.evt opE opA
   simp
  rw[e]
  have h9:=hcz.less (bx':=bx) (fun x hx=>mcm _ (mcm _ (mcm _ (mcm _ hx))))
  rw[HPN2.out] at h9
  exact h9
open Go.Shelf
attribute [local go_sem] Oper.semAt_some
def Ev.z:Ev:=⟨0,0,false,⟨0,0,0,0⟩,0,0⟩
def Ev.val (e:Ev):Value:=.agg #[.int .i64 e.t,.int .i64 e.a,.bool e.e,.int .i64 e.o.k,.int .i64 e.o.s,.int .i64 e.o.al,.int .i64 e.o.ad,.int .i64 e.ra,.int .i64 e.re]
def bwE (L:List Ev):Nat->List (Nat×Ev)
 |0=>[]
 |k+1=>(k,L.getD k Ev.z)::bwE L k
theorem bwE_len (L:List Ev) (k:Nat):(bwE L k).length=k:=by
 induction k with
 |zero=>rfl
 |succ k ih=>rw[bwE,List.length_cons,ih]
def KeepE (B g:Nat) (W W':World):Prop:=∀(p:Addr) v,(p.block=B\/p.block=g)->W.cell? p=some v->W'.cell? p=some v
structure EvsAt (W:World) (B g n:Nat) (L:List Ev):Prop where
 box:∃A c,W.cell? ⟨B,0,none⟩=some (.slice A n c)/\n<=c/\(0<n->A=some ⟨g,0,none⟩)
 ev:∀i,i<n->∀j u,(L.getD i Ev.z).cells[j]? =some u->W.cell? ⟨g,i*9+j,none⟩=some u
theorem EvsAt.keep {W W':World} {B g n:Nat} {L:List Ev} (h:EvsAt W B g n L) (hk:KeepE B g W W'):EvsAt W' B g n L:=by
 obtain⟨⟨A,c,h1,h2,h3⟩,h4⟩:=h
 exact⟨⟨A,c,hk _ _ (.inl rfl) h1,h2,h3⟩,fun i hi j u hu=>hk _ _ (.inr rfl) (h4 i hi j u hu)⟩
theorem back_any (w:World) (A:Option Addr) (n c:Nat):Calls Tryz.prog 71 #[.slice A n c] w fun e w'=>e=.returned (.func (.func 78) #[] #[.pointer (some ⟨w.heap.size,0,none⟩)])/\w'=w.alloc (.cells #[.slice A n c] 61):=by
 go_enter Tryz.func71,Tryz.ntmps71
 go_wp2_with fail
 go_ret
 exact⟨rfl,rfl⟩
set_option maxRecDepth 100000 in
set_option maxHeartbeats 4000000 in
theorem back1_in (N:Nat) (hN:1<=N) (l B g n:Nat) (L:List Ev) (hn:n<=100000) (J Jx:List (Nat×Ev)->World->Prop)
 (hY:∀pre x W,J pre W->pre.length<n+1->YieldAt Fence.wide (N-1) Tryz.prog l #[.int .i64 (x.1:Nat),x.2.val] W fun e W'=>
  (e=.returned (.bool true)/\J (pre++[x]) W'/\KeepE B g W W')\/(e=.returned (.bool false)/\Jx (pre++[x]) W'))
 (W:World) (hE:EvsAt W B g n L) (h0:J [] W):
 CallsIn Fence.wide N Tryz.prog 78 #[.func (.yield l) #[] #[],.pointer (some ⟨B,0,none⟩)] W fun e W'=>(∃v,e=.returned v)/\
  ((∃ys,ys=bwE L n/\J ys W')\/(∃pre,(∃post,bwE L n=pre++post)/\Jx pre W')):=by
 refine callsIn_of_wp Tryz.func78 rfl trivial ?_ rfl
 simp only[Tryz.ntmps78,List.size_toArray,List.length_cons,List.length_nil,Nat.reduceAdd,Nat.reduceSub,Array.replicate_succ,Array.replicate_zero,List.push_toArray,List.append_toArray,List.nil_append,List.cons_append]
 obtain⟨A,c,hb,hc,hA⟩:=hE.box
 have HE:=Lib.hid hE
 have w1:IntKind.i64.wrap ((n:Int)-1)=(n:Int)-1:=IntWalk.i64_in _ (by omega)
 clear hE
 gi_wp2
 gi_loopw [3] (fun t wr=>∃(pre:List (Nat×Ev)) (k:Nat),t=.int .i64 ((k:Int)-1)/\k<=n/\pre++bwE L k=bwE L n/\J pre wr/\EvsAt wr B g n L) (fun t _=>(intOf t+1).toNat)
 case atStart=>exact⟨[],n,rfl,Nat.le_refl _,rfl,h0,HE.out⟩
 case round=>
  obtain⟨pre,k,rfl,hk,hp,hJ,hEw⟩:=hrel
  cases k with
  |zero=>
   have hpe:pre=bwE L n:=by rw[<-hp,bwE,List.append_nil]
   have e:(((0:Nat):Int)-1)= -1:=rfl
   rw[e]
   clear hp
   gi_wp2
   go_end0
   exact⟨⟨_,rfl⟩,.inl ⟨pre,hpe,hJ⟩⟩
  |succ m=>
   have e:(((m+1:Nat):Int)-1)=(m:Int):=by omega
   rw[e]
   have hpl:pre.length+(m+1)=n:=by
    have:=congrArg List.length hp
    rw[List.length_append,bwE_len,bwE_len] at this
    exact this
   obtain⟨x,hx⟩:∃x:Nat×Ev,x=(m,L.getD m Ev.z):=⟨_,rfl⟩
   have HP:Hid ((pre++[x])++bwE L m=bwE L n):=by
    show _=_
    rw[<-hp,bwE,hx,List.append_assoc];rfl
   obtain⟨fn,tmps,assign,body,hy,hR⟩:=hY pre x wr hJ (by omega)
   obtain⟨A2,c2,hb2,hc2,hA2⟩:=hEw.box
   obtain rfl:=hA2 (by omega)
   have hev:=hEw.ev m (by omega)
   rw[show L.getD m Ev.z=x.2 by rw[hx]] at hev
   rw[show x.1=m by rw[hx]] at hy
   have e0:=hev 0 _ rfl
   have e1:=hev 1 _ rfl
   have e2:=hev 2 _ rfl
   have e3:=hev 3 _ rfl
   have e4:=hev 4 _ rfl
   have e5:=hev 5 _ rfl
   have e6:=hev 6 _ rfl
   have e7:=hev 7 _ rfl
   have e8:=hev 8 _ rfl
   rw[Nat.add_zero] at e0
   have HEw:=Lib.hid hEw
   unfold Ev.val at hy
   clear hev hp hEw hx hA hA2
   gi_wp2
   refine hR.mono ?_
   rintro e W3 (⟨rfl,hJ3,hk3⟩|⟨rfl,hJx3⟩)
   ·have hE3:=HEw.out.keep hk3
    have wm:IntKind.i64.wrap ((m:Int)-1)=(m:Int)-1:=IntWalk.i64_in _ (by omega)
    clear hR hy
    gi_wp2
    go_roundw
    case rel=>exact⟨pre++[x],m,rfl,by omega,HP.out,hJ3,hE3⟩
    case measure=>simp[intOf]
   ·gi_wp2
    refine bodyPost_ret (results_none rfl _ _ _) rfl ?_
    exact⟨⟨_,rfl⟩,.inr ⟨_,⟨_,HP.out.symm⟩,hJx3⟩⟩
theorem back_stops (N:Nat) (hN:1<=N) (B g n:Nat) (L:List Ev) (hn:n<=100000) (w:World) (hE:EvsAt w B g n L) (hB:B<w.heap.size) (hg:0<n->g<w.heap.size):
 SeqStopsK Fence.wide N Tryz.prog 78 #[.pointer (some ⟨B,0,none⟩)] (fun x:Nat×Ev=>#[Value.int .i64 (x.1:Nat),x.2.val]) (KeepE B g) (fun ys=>ys=bwE L n) (fun pre=>∃post,bwE L n=pre++post) (n+1) w:=fun l J Jx W hW _ _ hY h0=>
 back1_in N hN l B g n L hn J Jx hY W (by
  obtain⟨⟨A,c,h1,h2,h3⟩,h4⟩:=hE
  exact⟨⟨A,c,(hW.cell (p:=⟨B,0,none⟩) hB).trans h1,h2,h3⟩,fun i hi j u hu=>(hW.cell (p:=⟨g,i*9+j,none⟩) (hg (by omega))).trans (h4 i hi j u hu)⟩) h0
end Go.Proofs.YtcidjimefnhacaaGreatDoor
namespace Go.Proofs.YtcidjimefnhacaaGreatDoor
open Go.RowKit
open Go.Shelf
def mtE (t:Nat) (e:Ev):Prop:=e.t=(t:Int)/\e.e=false
theorem bwE_map (L:List Ev) (k:Nat) (hk:k<=L.length):(bwE L k).map (fun y=>y.2)=(L.take k).reverse:=by
 induction k with
 |zero=>rfl
 |succ k ih=>
  rw[bwE,List.map_cons,ih (by omega),List.take_add_one,List.getElem?_eq_getElem (by omega),List.reverse_append]
  dsimp only
  rw[List.getD_eq_getElem?_getD,List.getElem?_eq_getElem (by omega)]
  rfl
theorem bwE_rev (L:List Ev):(bwE L L.length).map (fun y=>y.2)=L.reverse:=by
 rw[bwE_map L _ (Nat.le_refl _),List.take_length]
theorem mtE_iff {t:Nat} {e:Ev}:(decide (e.t=(t:Int))&& !e.e)=true↔mtE t e:=by
 unfold mtE
 cases e.e<;>simp
theorem find_none {L:List (Nat×Ev)} {t:Nat} (h:∀y∈L,¬mtE t y.2):(L.map (fun y=>y.2)).find? (fun e=>decide (e.t=(t:Int))&& !e.e)=none:=by
 rw[List.find?_eq_none]
 intro e he hc
 obtain⟨y,hy,rfl⟩:=List.mem_map.1 he
 exact h y hy (mtE_iff.1 hc)
theorem lastB_none {L:List Ev} {t:Nat} {o:Op4} (h:∀y∈bwE L L.length,¬mtE t y.2):lastB L t o=o:=by
 unfold lastB
 rw[<-bwE_rev,find_none h]
theorem lastB_found {L:List Ev} {t:Nat} {o:Op4} {pre post:List (Nat×Ev)} {y:Nat×Ev} (he:bwE L L.length=(pre++[y])++post) (h:∀z∈pre,¬mtE t z.2) (hy:mtE t y.2):lastB L t o=y.2.o:=by
 unfold lastB
 rw[<-bwE_rev,he,List.map_append,List.map_append,List.append_assoc,List.find?_append,find_none h,Option.none_or,List.map_cons,List.cons_append,List.find?_cons,mtE_iff.2 hy]
theorem EvsAt.of {W:World} {A:Option Addr} {n c:Nat} {L:List Ev} (h:W.ownsRow 0 68 9 (.slice A n c) n (evCells L)) (hn:L.length=n) (t:TypeId):∃g,(g=0\/(Value.slice A n c).ownBlock=some g)/\(0<n->g<W.heap.size)/\EvsAt (W.alloc (.cells #[.slice A n c] t)) W.heap.size g n L:=by
 have hb:(W.alloc (.cells #[.slice A n c] t)).cell? ⟨W.heap.size,0,none⟩=some (.slice A n c):=(Blk.new W t #[.slice A n c]).cell_ 0 rfl
 rcases h.2 with ⟨h2,h3⟩|⟨g,cap,cur,hv,hg0,hg,h3,h4,h5,h6⟩
 ·subst h3
  exact⟨0,.inl rfl,fun h=>by omega,⟨A,c,hb,Nat.zero_le _,fun h=>by omega⟩,fun i hi=>by omega⟩
 ·injection hv with e1 _ e3
  subst e1 e3
  refine⟨g,.inr rfl,fun _=>(Array.getElem?_eq_some_iff.1 hg).1,⟨_,c,hb,h3,fun _=>rfl⟩,fun i hi j u hu=>?_⟩
  have hB:Blk W g 68 cur:=hg
  have hj:j<9:=by
   have:=(List.getElem?_eq_some_iff.1 hu).1
   exact this
  have hin:i*9+j<n*9:=by omega
  have hL:L[i]? =some (L.getD i Ev.z):=by
   rw[List.getD_eq_getElem?_getD,List.getElem?_eq_getElem (by omega)];rfl
  have hu2:cur[i*9+j]? =some u:=by
   rw[<-hu,<-evCells_at L i hL j hj,<-h6,List.getElem?_take,if_pos hin,Array.getElem?_toList]
  exact(hB.alloc _).cell_ (i*9+j) hu2
theorem Ctx.evOff {P:Hp} {Q:RP} {pr:Nat->List Ac} {R:RS} {Sc:HS} {w W:World} {FP:List Nat} {bx:List (Nat×TypeId×Array Value)} (h:Ctx P Sc w FP (RunRec P Q pr R) bx W) {v:Value} (hv:W.cell? ⟨Q.p,30,none⟩=some v) {x:Nat×TypeId×Array Value} (hx:x∈bx):∀k,v.ownBlock=some k->k≠x.1:=by
 obtain⟨_,_,⟨FPc,fs,_,⟨⟨v0,fa,h1,_,_,_,_,_,_,h8,_⟩,_,_⟩,_,_,h6⟩,_⟩:=h
 obtain rfl:v0=v:=Option.some.inj ((Rcells.of h1).ev.symm.trans hv)
 intro k hk e
 exact(h6 x hx).2 (e▸(h8 k hk).1)
theorem keepE_only {B g H:Nat} {W W':World} (h:Only [H] W W') (hB:B≠H) (hg:g≠H):KeepE B g W W':=fun p v hp hv=>by
 refine(h.cell (World.block_lt_of_cell? W _ hv) ?_).trans hv
 intro hm
 simp at hm
 rcases hp with e|e
 ·exact hB (e▸hm)
 ·exact hg (e▸hm)
theorem KeepE.trans {B g:Nat} {X Y Z:World} (h:KeepE B g X Y) (k:KeepE B g Y Z):KeepE B g X Z:=fun p v hp hv=>k p v hp (h p v hp hv)
theorem keepE_put {B g m:Nat} (hB:B<m) (hg:g<m) {W:World} {l:Nat} (o':Obj) (hl:m<=l):KeepE B g W (W.putObj l o'):=
 keepE_only ((Only.refl [l] W).grown (grownBy_putObj' W l o') (fun k e=>by injection e with e;subst e;exact .inl (by simp))) (by omega) (by omega)
theorem keepsFrom_only {H m:Nat} {W W':World} (h:Only [H] W W') (hH:H<m):KeepsFrom m W W':=
 ⟨h.size,fun k o hB hk _=>(h.block k (Array.getElem?_eq_some_iff.1 hk).1 (by simp;omega)).trans hk⟩
theorem ownFrom_only (H:Nat) (Wl:World) (tO:TypeId) (hH:H<Wl.heap.size) {β:Type} (cs:β->Array Value) (X:β->Prop):OwnFrom Wl.heap.size (fun (s:β) W=>Only [H] Wl W/\Blk W H tO (cs s)/\X s):=by
 intro s W W' row ⟨h1,h2,h3⟩ hg hr
 have ho:Only (row.toList) W W':=(Only.refl _ W).grown hg (fun k hk=>.inl (Option.mem_toList.2 hk))
 refine⟨h1.then_ ho (fun x hx=>.inr (hr x (Option.mem_toList.1 hx)).1),h2.only ho (fun hx=>?_),h3⟩
 have:=(hr _ (Option.mem_toList.1 hx)).1
 omega
def op4c (o:Op4):Array Value:=#[.int .i64 o.k,.int .i64 o.s,.int .i64 o.al,.int .i64 o.ad]
def evC (e:Ev):Array Value:=#[.int .i64 e.t,.int .i64 e.a,.bool e.e,.int .i64 e.o.k,.int .i64 e.o.s,.int .i64 e.o.al,.int .i64 e.o.ad,.int .i64 e.ra,.int .i64 e.re]
def lastE (pre:List (Nat×Ev)):Ev:=(pre.getLastD (0,Ev.z)).2
def IFree (H t:Nat) (Wl:World) (pre:List (Nat×Ev)) (W:World):Prop:=Only [H] Wl W/\Blk W H 64 (op4c ⟨1,0,0,0⟩)/\∀y∈pre,¬mtE t y.2
def XFree (H t:Nat) (Wl:World) (c:Code) (pre:List (Nat×Ev)) (W:World):Prop:=Only [H] Wl W/\Blk W H 64 (op4c (lastE pre).o)/\(c=.exit 1/\∃pre0 y,pre=pre0++[y]/\(∀z∈pre0,¬mtE t z.2)/\mtE t y.2)
def AFree (TM:Array Value) (Wl:World) (x:Nat×Ev) (a:Act) (W:World):Prop:=∃b,a={tmps:=((TM.setIfInBounds 78 (.int .i64 (x.1:Nat))).setIfInBounds 79 x.2.val).setIfInBounds 10 (.pointer (some ⟨b,0,none⟩)),defers:=[]}/\Wl.heap.size<=b/\Blk W b 68 (evC x.2)
theorem IFree.own {H t:Nat} {Wl:World} (h:H<Wl.heap.size):OwnFrom Wl.heap.size (IFree H t Wl):=ownFrom_only H Wl _ h _ _
theorem XFree.own {H t:Nat} {Wl:World} (h:H<Wl.heap.size) (c:Code):OwnFrom Wl.heap.size (XFree H t Wl c):=ownFrom_only H Wl _ h _ _
theorem AFree.own {TM:Array Value} {Wl:World} (x:Nat×Ev) (a:Act):OwnFrom Wl.heap.size (fun (_:Unit) W=>AFree TM Wl x a W):=by
 rintro s W W' row ⟨b,h1,h2,h3⟩ hg hr
 refine⟨b,h1,h2,?_⟩
 have ho:Only (row.toList) W W':=(Only.refl _ W).grown hg (fun k hk=>.inl (Option.mem_toList.2 hk))
 refine h3.only ho (fun hx=>?_)
 obtain⟨_,o,ho,hc⟩:=hr _ (Option.mem_toList.1 hx)
 unfold Blk at h3
 rw[h3] at ho
 cases ho
 cases hc
end Go.Proofs.YtcidjimefnhacaaGreatDoor
