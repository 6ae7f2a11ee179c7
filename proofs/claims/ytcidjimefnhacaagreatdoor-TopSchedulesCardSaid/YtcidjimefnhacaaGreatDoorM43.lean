/- TopSchedules, a part of the proof: Ro, Rp, Rm. -/
import Derived.Test.YtcidjimefnhacaaGreatDoorM40
import Derived.Test.YtcidjimefnhacaaGreatDoorM34
set_option linter.unusedVariables false
set_option linter.unusedSimpArgs false
namespace Go.Proofs.YtcidjimefnhacaaGreatDoor
open Go.RowKit
set_option maxRecDepth 100000 in
set_option maxHeartbeats 8000000 in
theorem rbegin_free {P:Hp} {Q:RP} {pr:Nat->List Ac} {R:RS} {S:HS} {w W:World} {FP:List Nat} {bx:List (Nat×TypeId×Array Value)} (h:Ctx P S w FP (RunRec P Q pr R) bx W) {t:Nat} (ht:t<P.nt) (h3:P.nt<=3) {a:Ac} (ha:a.Ok t) (hb:R.bg t<=40) (hl:R.ev.length<=5000) (hk:a.k=1) (hp:S.ph t=.none) (hX0:0<R.sl a.s.toNat/\R.sl a.s.toNat<65536):
 Calls Tryz.prog 57 #[.pointer (some ⟨Q.p,0,none⟩),.int .i64 t,a.val] W fun e W'=>e=.returned (.tuple #[])/\Ctx P (S.phs t (phOf P.T (.free (R.sl a.s.toNat)))) w FP (RunRec P Q pr (R.beg t a)) bx W':=by
 obtain⟨sn,_⟩:=ha.sn
 obtain⟨hs1,hs2⟩:=ha.s
 obtain⟨s,hs'⟩:∃s:Nat,a.s=s:=⟨a.s.toNat,sn.symm⟩
 have es:a.s.toNat=s:=by omega
 have hs16:(s:Int)<16:=by omega
 have ht4:t<4:=by omega
 have ht4':(t:Int)<4:=by omega
 obtain⟨x,hX⟩:∃x,R.sl a.s.toNat=x:=⟨_,rfl⟩
 rw[hX] at hX0 ⊢
 obtain⟨hX0,hX1⟩:=hX0
 obtain⟨ak,a_s,az,aal,aw,av⟩:=a
 dsimp only at hs' es hs1 hs2 sn hk
 subst hk
 subst hs'
 dsimp only at hX
 rw[es] at hX
 clear sn
 have FR:=fun R=>RunRec.framed P Q pr R
 have hc1:=h.push (FR R) #[.int .i64 1,.int .i64 (s:Nat),.int .i64 az,.int .i64 aal,.int .i64 aw,.int .i64 av] 50
 have hc2:=(hc1.setRun (R':={R with bg:=upd R.bg t (R.bg t+1)}) (18+t) (.int .i64 ((R.bg t:Int)+1)) rfl (fun v k _=>runF_bg t ht4 (R.bg t+1) k)).still (FR _) ((Only.refl [] _).drew)
 obtain⟨_,_,_,_,hrc,_⟩:=hc1.rcells
 have zb:=hrc.bg t ht4
 have zf:=hrc.fz (18+t)
 have hHW:W.heap.size<(W.alloc (.cells #[.int .i64 1,.int .i64 (s:Nat),.int .i64 az,.int .i64 aal,.int .i64 aw,.int .i64 av] 50)).heap.size:=by simp
 clear hrc
 have CST:=Lib.hid (fun (W1:World) (R1:RS) (bx':List (Nat×TypeId×Array Value)) (hh:Ctx P S w FP (RunRec P Q pr R1) bx' W1)=>hh.call (f:=73) (args:=#[.pointer (some ⟨P.h,0,none⟩),.int .i64 t,.agg #[.int .i64 1,.int .i64 0,.int .i64 0,.int .i64 x]]) (α:=Unit) (R:=fun _ e=>e=.returned (.int .i64 0)) (S':=fun _=>S.phs t (phOf P.T (.free x))) (FR R1) (fun FPc hs=>(hStart_at hs ht hp (.free x) (show I64 x by unfold I64;omega)).mono (fun e w' hh=>⟨(),hh⟩)))
 have e0:(x==0)=false:=beq_eq_false_iff_ne.2 (by omega)
 unfold Ac.val
 dsimp only
 go_enter Tryz.func57,Tryz.ntmps57
 go_wp2_with fail
 generalize W.alloc (.cells #[.int .i64 1,.int .i64 (s:Nat),.int .i64 az,.int .i64 aal,.int .i64 aw,.int .i64 av] 50)=W1 at *
 go_region
 have hsize:W1.heap.size=(World.drew (World.setCell W1 ⟨Q.p,18+t,none⟩ (.int .i64 ((R.bg t:Int)+1)))).heap.size:=by simp[World.setCell]
 rw[hsize] at hHW
 generalize World.drew (World.setCell W1 ⟨Q.p,18+t,none⟩ (.int .i64 ((R.bg t:Int)+1)))=Wa at *
 clear hc1 zb zf hsize
 have x0:=(bxCell hc2 (mcs ..) 0 rfl).1
 have x1:=(bxCell hc2 (mcs ..) 1 rfl).1
 have x2:=(bxCell hc2 (mcs ..) 2 rfl).1
 have x3:=(bxCell hc2 (mcs ..) 3 rfl).1
 have x4:=(bxCell hc2 (mcs ..) 4 rfl).1
 have x5:=(bxCell hc2 (mcs ..) 5 rfl).1
 have CO:=rop_at Wa ⟨1,(s:Nat),az,aal,aw,av⟩
 rw[show opA ⟨1,(s:Nat),az,aal,aw,av⟩=⟨1,0,0,0⟩ from rfl] at CO
 unfold Op4.val at CO
 dsimp only at CO
 have HC2:=Lib.hid hc2
 have HCO:=Lib.hid CO
 clear hc2 CO
 go_wp2_with fail
 refine Grew.use HCO.out (fun Wb hob=>?_)
 have hcb:=HC2.out.still (FR _) hob
 have hHb:W.heap.size<Wb.heap.size:=Nat.lt_of_lt_of_le hHW hob.size
 have hcc:=hcb.push (FR _) #[.int .i64 1,.int .i64 0,.int .i64 0,.int .i64 0] 64
 have HNE0:∀x∈bx,x.1≠Wb.heap.size:=fun x hx e=>by have:=(h.box hx).lt;omega
 have HNE:∀z∈((W.heap.size,50,#[.int .i64 1,.int .i64 (s:Nat),.int .i64 az,.int .i64 aal,.int .i64 aw,.int .i64 av])::bx),z.1≠Wb.heap.size:=fun z hz e=>(List.mem_cons.1 hz).elim (fun e2=>by rw[e2] at e;exact absurd e (Nat.ne_of_lt hHb)) (fun h2=>HNE0 z h2 e)
 have HWH:w.heap.size<=Wb.heap.size:=by have:=h.only.size;omega
 clear hcb HC2 HCO x0 x1 x2 x3 x4 x5 hHW
 have y0:=(bxCell hcc (mcm _ (mcs ..)) 0 rfl).1
 have y1:=(bxCell hcc (mcm _ (mcs ..)) 1 rfl).1
 go_wp2_with fail
 generalize hH2:Wb.heap.size=H2 at *
 generalize Wb.alloc (.cells #[.int .i64 1,.int .i64 0,.int .i64 0,.int .i64 0] 64)=Wc at *
 obtain⟨_,_,_,_,hrc,_⟩:=hcc.rcells
 have zs:=hrc.sl s (by omega)
 obtain⟨u3,v3⟩:=bxCell hcc (mcs ..) 3 rfl
 rw[hX] at zs
 have HCC:=Lib.hid hcc
 clear hcc hrc
 go_region
 have hcd:=(HCC.out.setBoxL (FR _) (fun z hz=>HNE z hz) HWH 3 (.int .i64 x)).still (FR _) ((Only.refl [] _).drew)
 generalize World.drew (World.setCell Wc ⟨H2,3,none⟩ (.int .i64 x))=Wd at *
 clear HCC u3 v3 zs y0 y1
 obtain⟨_,_,_,_,hrd,_⟩:=hcd.rcells
 have zs:=hrd.sl s (by omega)
 have zf:=hrd.fz (2+s)
 have y1:=(bxCell hcd (mcm _ (mcs ..)) 1 rfl).1
 have HCD:=Lib.hid hcd
 clear hcd hrd
 go_wp2_with fail
 go_region
 have hce:=(HCD.out.setRun (R':={{R with bg:=upd R.bg t (R.bg t+1)} with sl:=upd R.sl s (-1)}) (2+s) (.int .i64 (-1)) rfl (fun v k _=>runF_sl s (by omega) (-1) k)).still (FR _) ((Only.refl [] _).drew)
 generalize World.drew (World.setCell Wd ⟨Q.p,2+s,none⟩ (.int .i64 (-1)))=We at *
 clear HCD zs zf y1
 have q3:=(bxCell hce (mcs ..) 3 rfl).1
 have q0:=(bxCell hce (mcs ..) 0 rfl).1
 have q1:=(bxCell hce (mcs ..) 1 rfl).1
 have q2:=(bxCell hce (mcs ..) 2 rfl).1
 have g0:=(bxCell hce (mcs ..) 0 rfl).2
 have g1:=(bxCell hce (mcs ..) 1 rfl).2
 have g2:=(bxCell hce (mcs ..) 2 rfl).2
 have g3:=(bxCell hce (mcs ..) 3 rfl).2
 have HCE:=Lib.hid hce
 clear hce
 go_wp2_with fail
 refine(revent_b HCE.out ht4 (by show upd R.bg t (R.bg t+1) t<=100;rw[upd_at];omega) (by show R.ev.length<=10000;omega) ⟨1,0,0,x⟩ 0 0).mono ?_
 rintro r Wg ⟨rfl,hcg⟩
 clear HCE q0 q1 q2 q3 g0 g1 g2 g3 e0
 have y0:=(bxCell hcg (mcs ..) 0 rfl).1
 have y1:=(bxCell hcg (mcm _ (mcs ..)) 0 rfl).1
 have y2:=(bxCell hcg (mcm _ (mcs ..)) 1 rfl).1
 obtain⟨_,_,_,_,hrd,_⟩:=hcg.rcells
 have zs:=hrd.sl s (by omega)
 have zf:=hrd.fz (2+s)
 have HCD:=Lib.hid hcg
 clear hcg hrd
 go_wp2_with fail
 have hce:=HCD.out
 replace hce:=hce.still (FR _) ((Only.refl [] _).drew)
 clear y0 y1 y2 zs zf HCD
 go_region_held3 (fun U=>U.cell? ⟨Q.p,0,none⟩=some (.pointer (some ⟨P.h,0,none⟩))/\U.cell? ⟨H2,0,none⟩=some (.int .i64 1)/\U.cell? ⟨H2,1,none⟩=some (.int .i64 0)/\U.cell? ⟨H2,2,none⟩=some (.int .i64 0)/\U.cell? ⟨H2,3,none⟩=some (.int .i64 x))
  (exact⟨hce.rcells.elim (fun _ h=>h.elim (fun _ h=>h.elim (fun _ h=>h.2.1.c0))),(bxCell hce (mcs ..) 0 rfl).1,(bxCell hce (mcs ..) 1 rfl).1,(bxCell hce (mcs ..) 2 rfl).1,(bxCell hce (mcs ..) 3 rfl).1⟩)
  (first
   |(go_at_call 73;with_reducible refine Calls.mono (CST.out _ _ _ hce) ?_;rintro _ wM ⟨_,rfl,hbN⟩;clear hce;have hce:=hbN;clear hbN))
 obtain⟨_,_,_,_,hre,_⟩:=hce.rcells
 have zz:=hre.bz t ht4
 have zg:=hre.fz (26+t)
 have hcz:=hce.setRun (R':={(RS.evt {{R with bg:=upd R.bg t (R.bg t+1)} with sl:=upd R.sl s (-1)} t false ⟨1,0,0,x⟩ 0 0) with bz:=upd R.bz t true}) (26+t) (.bool true) rfl (fun v k _=>runF_bz t ht4 true k)
 have HCZ:=Lib.hid hcz
 clear hcz hce hre CST
 go_wp2_with fail
 refine bodyPost_ret (results_none rfl _ _ _) rfl ?_
 refine⟨rfl,?_⟩
 refine(HCZ.out.less (bx':=bx) (fun x hx=>mcm _ (mcm _ hx))).monoL (fun fs h=>?_)
 have e:R.beg t ⟨1,(s:Nat),az,aal,aw,av⟩={(RS.evt {{R with bg:=upd R.bg t (R.bg t+1)} with sl:=upd R.sl s (-1)} t false ⟨1,0,0,x⟩ 0 0) with bz:=upd R.bz t true}:=by
  unfold RS.beg RS.evt opB
  dsimp only
  rw[if_neg (by decide),if_pos rfl,if_pos rfl,upd_at,es,hX]
  simp
 rw[e]
 exact h
set_option maxRecDepth 100000 in
set_option maxHeartbeats 8000000 in
theorem rbegin_fr0 {P:Hp} {Q:RP} {pr:Nat->List Ac} {R:RS} {S:HS} {w W:World} {FP:List Nat} {bx:List (Nat×TypeId×Array Value)} (h:Ctx P S w FP (RunRec P Q pr R) bx W) {t:Nat} (ht:t<P.nt) (h3:P.nt<=3) {a:Ac} (ha:a.Ok t) (hb:R.bg t<=40) (hl:R.ev.length<=5000) (hk:a.k=1) (hX0:R.sl a.s.toNat=0):
 Calls Tryz.prog 57 #[.pointer (some ⟨Q.p,0,none⟩),.int .i64 t,a.val] W fun e W'=>e=.returned (.tuple #[])/\Ctx P S w FP (RunRec P Q pr {R.wrd t a 0 4 with bz:=R.bz}) bx W':=by
 obtain⟨sn,_⟩:=ha.sn
 obtain⟨hs1,hs2⟩:=ha.s
 obtain⟨s,hs'⟩:∃s:Nat,a.s=s:=⟨a.s.toNat,sn.symm⟩
 have es:a.s.toNat=s:=by omega
 have hs16:(s:Int)<16:=by omega
 have ht4:t<4:=by omega
 have ht4':(t:Int)<4:=by omega
 obtain⟨x,hX⟩:∃x:Int,x=0:=⟨_,rfl⟩
 obtain⟨ak,a_s,az,aal,aw,av⟩:=a
 dsimp only at hs' es hs1 hs2 sn hk
 subst hk
 subst hs'
 dsimp only at hX0
 rw[es] at hX0
 clear sn
 have FR:=fun R=>RunRec.framed P Q pr R
 have hc1:=h.push (FR R) #[.int .i64 1,.int .i64 (s:Nat),.int .i64 az,.int .i64 aal,.int .i64 aw,.int .i64 av] 50
 have hc2:=(hc1.setRun (R':={R with bg:=upd R.bg t (R.bg t+1)}) (18+t) (.int .i64 ((R.bg t:Int)+1)) rfl (fun v k _=>runF_bg t ht4 (R.bg t+1) k)).still (FR _) ((Only.refl [] _).drew)
 obtain⟨_,_,_,_,hrc,_⟩:=hc1.rcells
 have zb:=hrc.bg t ht4
 have zf:=hrc.fz (18+t)
 have hHW:W.heap.size<(W.alloc (.cells #[.int .i64 1,.int .i64 (s:Nat),.int .i64 az,.int .i64 aal,.int .i64 aw,.int .i64 av] 50)).heap.size:=by simp
 clear hrc
 unfold Ac.val
 dsimp only
 go_enter Tryz.func57,Tryz.ntmps57
 go_wp2_with fail
 generalize W.alloc (.cells #[.int .i64 1,.int .i64 (s:Nat),.int .i64 az,.int .i64 aal,.int .i64 aw,.int .i64 av] 50)=W1 at *
 go_region
 have hsize:W1.heap.size=(World.drew (World.setCell W1 ⟨Q.p,18+t,none⟩ (.int .i64 ((R.bg t:Int)+1)))).heap.size:=by simp[World.setCell]
 rw[hsize] at hHW
 generalize World.drew (World.setCell W1 ⟨Q.p,18+t,none⟩ (.int .i64 ((R.bg t:Int)+1)))=Wa at *
 clear hc1 zb zf hsize
 have x0:=(bxCell hc2 (mcs ..) 0 rfl).1
 have x1:=(bxCell hc2 (mcs ..) 1 rfl).1
 have x2:=(bxCell hc2 (mcs ..) 2 rfl).1
 have x3:=(bxCell hc2 (mcs ..) 3 rfl).1
 have x4:=(bxCell hc2 (mcs ..) 4 rfl).1
 have x5:=(bxCell hc2 (mcs ..) 5 rfl).1
 have CO:=rop_at Wa ⟨1,(s:Nat),az,aal,aw,av⟩
 rw[show opA ⟨1,(s:Nat),az,aal,aw,av⟩=⟨1,0,0,0⟩ from rfl] at CO
 unfold Op4.val at CO
 dsimp only at CO
 have HC2:=Lib.hid hc2
 have HCO:=Lib.hid CO
 clear hc2 CO
 go_wp2_with fail
 refine Grew.use HCO.out (fun Wb hob=>?_)
 have hcb:=HC2.out.still (FR _) hob
 have hHb:W.heap.size<Wb.heap.size:=Nat.lt_of_lt_of_le hHW hob.size
 have hcc:=hcb.push (FR _) #[.int .i64 1,.int .i64 0,.int .i64 0,.int .i64 0] 64
 have HNE0:∀x∈bx,x.1≠Wb.heap.size:=fun x hx e=>by have:=(h.box hx).lt;omega
 have HNE:∀z∈((W.heap.size,50,#[.int .i64 1,.int .i64 (s:Nat),.int .i64 az,.int .i64 aal,.int .i64 aw,.int .i64 av])::bx),z.1≠Wb.heap.size:=fun z hz e=>(List.mem_cons.1 hz).elim (fun e2=>by rw[e2] at e;exact absurd e (Nat.ne_of_lt hHb)) (fun h2=>HNE0 z h2 e)
 have HWH:w.heap.size<=Wb.heap.size:=by have:=h.only.size;omega
 clear hcb HC2 HCO x0 x1 x2 x3 x4 x5 hHW
 have y0:=(bxCell hcc (mcm _ (mcs ..)) 0 rfl).1
 have y1:=(bxCell hcc (mcm _ (mcs ..)) 1 rfl).1
 go_wp2_with fail
 generalize hH2:Wb.heap.size=H2 at *
 generalize Wb.alloc (.cells #[.int .i64 1,.int .i64 0,.int .i64 0,.int .i64 0] 64)=Wc at *
 obtain⟨_,_,_,_,hrc,_⟩:=hcc.rcells
 have zs:=hrc.sl s (by omega)
 obtain⟨u3,v3⟩:=bxCell hcc (mcs ..) 3 rfl
 rw[hX0] at zs
 have HCC:=Lib.hid hcc
 clear hcc hrc
 go_region
 have hcd:=(HCC.out.setBoxL (FR _) (fun z hz=>HNE z hz) HWH 3 (.int .i64 0)).still (FR _) ((Only.refl [] _).drew)
 generalize World.drew (World.setCell Wc ⟨H2,3,none⟩ (.int .i64 0))=Wd at *
 clear HCC u3 v3 zs y0 y1
 obtain⟨_,_,_,_,hrd,_⟩:=hcd.rcells
 have zs:=hrd.sl s (by omega)
 have zf:=hrd.fz (2+s)
 have y1:=(bxCell hcd (mcm _ (mcs ..)) 1 rfl).1
 have HCD:=Lib.hid hcd
 clear hcd hrd
 go_wp2_with fail
 go_region
 have hce:=(HCD.out.setRun (R':={{R with bg:=upd R.bg t (R.bg t+1)} with sl:=upd R.sl s (-1)}) (2+s) (.int .i64 (-1)) rfl (fun v k _=>runF_sl s (by omega) (-1) k)).still (FR _) ((Only.refl [] _).drew)
 generalize World.drew (World.setCell Wd ⟨Q.p,2+s,none⟩ (.int .i64 (-1)))=We at *
 clear HCD zs zf y1
 have q3:=(bxCell hce (mcs ..) 3 rfl).1
 have q0:=(bxCell hce (mcs ..) 0 rfl).1
 have q1:=(bxCell hce (mcs ..) 1 rfl).1
 have q2:=(bxCell hce (mcs ..) 2 rfl).1
 have g0:=(bxCell hce (mcs ..) 0 rfl).2
 have g1:=(bxCell hce (mcs ..) 1 rfl).2
 have g2:=(bxCell hce (mcs ..) 2 rfl).2
 have g3:=(bxCell hce (mcs ..) 3 rfl).2
 have HCE:=Lib.hid hce
 clear hce
 go_wp2_with fail
 have HB4:=((((HCE.out.setBoxL (FR _) (fun z hz=>HNE z hz) HWH 0 (.int .i64 (-1))).setBoxL (FR _) (fun z hz=>HNE z hz) HWH 1 (.int .i64 0)).setBoxL (FR _) (fun z hz=>HNE z hz) HWH 2 (.int .i64 0)).setBoxL (FR _) (fun z hz=>HNE z hz) HWH 3 (.int .i64 0))
 refine(revent_b HB4 ht4 (by show upd R.bg t (R.bg t+1) t<=100;rw[upd_at];omega) (by show R.ev.length<=10000;omega) ⟨-1,0,0,0⟩ 0 0).mono ?_
 rintro r Wg ⟨rfl,hcg⟩
 clear HB4 HCE q0 q1 q2 q3 g0 g1 g2 g3
 have hch:=hcg.push (FR _) #[.int .i64 0,.int .i64 4] 66
 have m0:=fun i u hu=>(bxCell hch (mcm _ (mcs ..)) i (u:=u) hu).1
 have y0:=m0 0 _ rfl
 have y1:=m0 1 _ rfl
 have y2:=m0 2 _ rfl
 have y3:=m0 3 _ rfl
 have y4:=(bxCell hch (mcm _ (mcm _ (mcs ..))) 0 rfl).1
 have z0:=(bxCell hcg (mcs ..) 0 rfl).1
 have HCH:=Lib.hid hch
 clear m0 hch hcg
 go_wp2_with fail
 refine(revent_e HCH.out ht4 (by show upd R.bg t (R.bg t+1) t<=100;rw[upd_at];omega) (by show(R.ev++[_]).length<=10000;rw[List.length_append,List.length_singleton];omega) ⟨-1,0,0,0⟩ 0 4).mono ?_
 rintro r Wz ⟨rfl,hcz⟩
 go_wp2_with fail
 go_end0
 refine⟨rfl,?_⟩
 refine(hcz.less (bx':=bx) (fun x hx=>mcm _ (mcm _ (mcm _ hx)))).monoL (fun fs h=>?_)
 have e:({R.wrd t ⟨1,(s:Nat),az,aal,aw,av⟩ 0 4 with bz:=R.bz}:RS)=RS.evt (RS.evt {{R with bg:=upd R.bg t (R.bg t+1)} with sl:=upd R.sl s (-1)} t false ⟨-1,0,0,0⟩ 0 0) t true ⟨-1,0,0,0⟩ 0 4:=by
  unfold RS.wrd RS.evt
  dsimp only
  rw[upd_at]
  simp[es]
 rw[e]
 exact h
set_option maxRecDepth 100000 in
set_option maxHeartbeats 8000000 in
theorem rbegin_wr {P:Hp} {Q:RP} {pr:Nat->List Ac} {R:RS} {S:HS} {w W:World} {FP:List Nat} {bx:List (Nat×TypeId×Array Value)} (h:Ctx P S w FP (RunRec P Q pr R) bx W) {t:Nat} (ht:t<P.nt) (h3:P.nt<=3) {a:Ac} (ha:a.Ok t) (hb:R.bg t<=40) (hl:R.ev.length<=5000) (hk:a.k=3\/a.k=4) (hsw:SlWd S R a):
 Calls Tryz.prog 57 #[.pointer (some ⟨Q.p,0,none⟩),.int .i64 t,a.val] W fun e W'=>e=.returned (.tuple #[])/\Ctx P {S with sp:=wordS S R a} w FP (RunRec P Q pr {R.wrd t a (wordR S R a).1 (wordR S R a).2 with bz:=R.bz}) bx W':=by
 obtain⟨sn,_⟩:=ha.sn
 obtain⟨hs1,hs2⟩:=ha.s
 obtain⟨s,hs'⟩:∃s:Nat,a.s=s:=⟨a.s.toNat,sn.symm⟩
 have es:a.s.toNat=s:=by omega
 have hs16:(s:Int)<16:=by omega
 have ht4:t<4:=by omega
 have ht4':(t:Int)<4:=by omega
 obtain⟨ak,a_s,az,aal,aw,av⟩:=a
 dsimp only at hs' es hs1 hs2 sn hk
 subst hs'
 clear sn
 have FR:=fun R=>RunRec.framed P Q pr R
 have hc1:=h.push (FR R) #[.int .i64 ak,.int .i64 (s:Nat),.int .i64 az,.int .i64 aal,.int .i64 aw,.int .i64 av] 50
 have hc2:=(hc1.setRun (R':={R with bg:=upd R.bg t (R.bg t+1)}) (18+t) (.int .i64 ((R.bg t:Int)+1)) rfl (fun v k _=>runF_bg t ht4 (R.bg t+1) k)).still (FR _) ((Only.refl [] _).drew)
 obtain⟨_,_,_,_,hrc,_⟩:=hc1.rcells
 have zb:=hrc.bg t ht4
 have zf:=hrc.fz (18+t)
 have hHW:W.heap.size<(W.alloc (.cells #[.int .i64 ak,.int .i64 (s:Nat),.int .i64 az,.int .i64 aal,.int .i64 aw,.int .i64 av] 50)).heap.size:=by simp
 clear hrc
 have e1:(ak==1)=false:=beq_eq_false_iff_ne.2 (by rcases hk with h|h<;>rw[h]<;>decide)
 have e2:(ak != 1)=true:=bne_iff_ne.2 (by rcases hk with h|h<;>rw[h]<;>decide)
 unfold Ac.val
 dsimp only
 go_enter Tryz.func57,Tryz.ntmps57
 go_wp2_with fail
 generalize W.alloc (.cells #[.int .i64 ak,.int .i64 (s:Nat),.int .i64 az,.int .i64 aal,.int .i64 aw,.int .i64 av] 50)=W1 at *
 go_region
 have hsize:W1.heap.size=(World.drew (World.setCell W1 ⟨Q.p,18+t,none⟩ (.int .i64 ((R.bg t:Int)+1)))).heap.size:=by simp[World.setCell]
 rw[hsize] at hHW
 generalize World.drew (World.setCell W1 ⟨Q.p,18+t,none⟩ (.int .i64 ((R.bg t:Int)+1)))=Wa at *
 clear hc1 zb zf hsize
 have x0:=(bxCell hc2 (mcs ..) 0 rfl).1
 have x1:=(bxCell hc2 (mcs ..) 1 rfl).1
 have x2:=(bxCell hc2 (mcs ..) 2 rfl).1
 have x3:=(bxCell hc2 (mcs ..) 3 rfl).1
 have x4:=(bxCell hc2 (mcs ..) 4 rfl).1
 have x5:=(bxCell hc2 (mcs ..) 5 rfl).1
 have CO:=rop_at Wa ⟨ak,(s:Nat),az,aal,aw,av⟩
 rw[show opA ⟨ak,(s:Nat),az,aal,aw,av⟩=⟨(-1),0,0,0⟩ from(by unfold opA;dsimp only;rw[if_neg (by omega),if_neg (by omega),if_neg (by omega)])] at CO
 unfold Op4.val at CO
 dsimp only at CO
 have HC2:=Lib.hid hc2
 have HCO:=Lib.hid CO
 clear hc2 CO
 go_wp2_with fail
 refine Grew.use HCO.out (fun Wb hob=>?_)
 have hcb:=HC2.out.still (FR _) hob
 have hHb:W.heap.size<Wb.heap.size:=Nat.lt_of_lt_of_le hHW hob.size
 have hcc:=hcb.push (FR _) #[.int .i64 (-1),.int .i64 0,.int .i64 0,.int .i64 0] 64
 clear hcb HC2 HCO x0 x1 x2 x3 x4 x5 hHW
 have y0:=(bxCell hcc (mcm _ (mcs ..)) 0 rfl).1
 have y1:=(bxCell hcc (mcm _ (mcs ..)) 1 rfl).1
 go_wp2_with fail
 generalize hH2:Wb.heap.size=H2 at *
 generalize Wb.alloc (.cells #[.int .i64 (-1),.int .i64 0,.int .i64 0,.int .i64 0] 64)=Wc at *
 refine(revent_b hcc ht4 (by show upd R.bg t (R.bg t+1) t<=100;rw[upd_at];omega) (by show R.ev.length<=10000;omega) ⟨-1,0,0,0⟩ 0 0).mono ?_
 rintro r Wd ⟨rfl,hcd⟩
 clear hcc y0 y1
 have hch:=hcd.push (FR _) #[.int .i64 0,.int .i64 4] 66
 have hHd:∀z∈((H2,64,#[.int .i64 (-1),.int .i64 0,.int .i64 0,.int .i64 0])::(W.heap.size,50,#[.int .i64 ak,.int .i64 (s:Nat),.int .i64 az,.int .i64 aal,.int .i64 aw,.int .i64 av])::bx),z.1≠Wd.heap.size:=fun z hz e=>by have:=(hcd.box hz).lt;omega
 have hWH3:w.heap.size<=Wd.heap.size:=hcd.only.size
 have m0:=fun i u hu=>(bxCell hch (mcm _ (mcm _ (mcs ..))) i (u:=u) hu).1
 have y0:=m0 0 _ rfl
 have y1:=m0 1 _ rfl
 have y2:=m0 2 _ rfl
 have y3:=m0 3 _ rfl
 have y4:=m0 4 _ rfl
 have y5:=m0 5 _ rfl
 have z0:=(bxCell hcd (mcs ..) 0 rfl).1
 have HCH:=Lib.hid hch
 clear m0 hch hcd
 go_wp2_with fail
 generalize hH3:Wd.heap.size=H3 at *
 generalize Wd.alloc (.cells #[.int .i64 0,.int .i64 4] 66)=Wh at *
 refine(rword_at HCH.out (t:=t) (a:=⟨ak,(s:Nat),az,aal,aw,av⟩) (by omega) ha hsw).mono ?_
 rintro r Wi ⟨rfl,hci⟩
 rw[show wordR S (RS.evt {R with bg:=upd R.bg t (R.bg t+1)} t false ⟨-1,0,0,0⟩ 0 0) ⟨ak,(s:Nat),az,aal,aw,av⟩=wordR S R ⟨ak,(s:Nat),az,aal,aw,av⟩ from rfl]
 replace hci:Ctx P {S with sp:=wordS S R ⟨ak,(s:Nat),az,aal,aw,av⟩} w FP (RunRec P Q pr (RS.evt {R with bg:=upd R.bg t (R.bg t+1)} t false ⟨-1,0,0,0⟩ 0 0)) ((H3,66,#[.int .i64 0,.int .i64 4])::(H2,64,#[.int .i64 (-1),.int .i64 0,.int .i64 0,.int .i64 0])::(W.heap.size,50,#[.int .i64 ak,.int .i64 (s:Nat),.int .i64 az,.int .i64 aal,.int .i64 aw,.int .i64 av])::bx) Wi:=hci
 obtain⟨ra,hra⟩:∃x,(wordR S R ⟨ak,(s:Nat),az,aal,aw,av⟩).1=x:=⟨_,rfl⟩
 obtain⟨re,hre⟩:∃x,(wordR S R ⟨ak,(s:Nat),az,aal,aw,av⟩).2=x:=⟨_,rfl⟩
 rw[hra,hre]
 clear y0 y1 y2 y3 y4 y5 z0
 obtain⟨r0,f0⟩:=bxCell hci (mcs ..) 0 rfl
 obtain⟨r1,f1⟩:=bxCell hci (mcs ..) 1 rfl
 have m0:=fun i u hu=>(bxCell hci (mcm _ (mcs ..)) i (u:=u) hu).1
 have y0:=m0 0 _ rfl
 have y1:=m0 1 _ rfl
 have y2:=m0 2 _ rfl
 have y3:=m0 3 _ rfl
 have hn23:H2≠H3:=hHd _ (mcs ..)
 have HB:=Lib.hid ((hci.setBoxL (FR _) hHd hWH3 0 (.int .i64 ra)).setBoxL (FR _) hHd hWH3 1 (.int .i64 re))
 clear m0 hci HCH
 go_wp2_with fail
 refine(revent_e HB.out ht4 (by show upd R.bg t (R.bg t+1) t<=100;rw[upd_at];omega) (by show(R.ev++[_]).length<=10000;rw[List.length_append,List.length_singleton];omega) ⟨-1,0,0,0⟩ ra re).mono ?_
 rintro r Wz ⟨rfl,hcz⟩
 go_wp2_with fail
 go_end0
 refine⟨rfl,?_⟩
 refine(hcz.less (bx':=bx) (fun x hx=>mcm _ (mcm _ (mcm _ hx)))).monoL (fun fs h=>?_)
 have e:({R.wrd t ⟨ak,(s:Nat),az,aal,aw,av⟩ ra re with bz:=R.bz}:RS)=RS.evt (RS.evt {R with bg:=upd R.bg t (R.bg t+1)} t false ⟨-1,0,0,0⟩ 0 0) t true ⟨-1,0,0,0⟩ ra re:=by
  unfold RS.wrd RS.evt
  dsimp only
  have hk1:¬ak=1:=by omega
  rw[upd_at]
  simp[hk1]
 rw[hra,hre,e]
 exact h
def Ph.nm:Ph->Value
 | .none=>.string {data:=#[]}
 | .take _=>.string {data:=#[116,97,107,101]}
 | .transfer _ _=>.string {data:=#[116,114,97,110,115,102,101,114]}
 | .central _ _=>.string {data:=#[99,101,110,116,114,97,108]}
 | .grow _ _=>.string {data:=#[103,114,111,119]}
 | .fill=>.string {data:=#[102,105,108,108]}
 | .large _=>.string {data:=#[108,97,114,103,101]}
 | .find _=>.string {data:=#[102,105,110,100]}
 | .put _ _=>.string {data:=#[112,117,116]}
 | .back=>.string {data:=#[98,97,99,107]}
 | .give _ _=>.string {data:=#[103,105,118,101]}
 | .drain=>.string {data:=#[100,114,97,105,110]}
theorem nm_take (k:Nat) (W:World):Grew Tryz.prog 247 #[.agg #[.int .i64 k]] W (Ph.nm (.take k)):=by
 unfold Ph.nm
 have hon:=fun cs=>(Only.refl [] W).alloc (.cells cs 191)
 go_enter Tryz.func247,Tryz.ntmps247
 go_wp2_with fail
 go_ret
 exact⟨rfl,hon _⟩
theorem nm_transfer (k:Nat) (n:Int) (W:World):Grew Tryz.prog 248 #[.agg #[.int .i64 k,.int .i64 n]] W (Ph.nm (.transfer k n)):=by
 unfold Ph.nm
 have hon:=fun cs=>(Only.refl [] W).alloc (.cells cs 194)
 go_enter Tryz.func248,Tryz.ntmps248
 go_wp2_with fail
 go_ret
 exact⟨rfl,hon _⟩
theorem nm_central (k:Nat) (n:Int) (W:World):Grew Tryz.prog 250 #[.agg #[.int .i64 k,.int .i64 n]] W (Ph.nm (.central k n)):=by
 unfold Ph.nm
 have hon:=fun cs=>(Only.refl [] W).alloc (.cells cs 200)
 go_enter Tryz.func250,Tryz.ntmps250
 go_wp2_with fail
 go_ret
 exact⟨rfl,hon _⟩
theorem nm_grow (k:Nat) (n:Int) (W:World):Grew Tryz.prog 251 #[.agg #[.int .i64 k,.int .i64 n]] W (Ph.nm (.grow k n)):=by
 unfold Ph.nm
 have hon:=fun cs=>(Only.refl [] W).alloc (.cells cs 202)
 go_enter Tryz.func251,Tryz.ntmps251
 go_wp2_with fail
 go_ret
 exact⟨rfl,hon _⟩
theorem nm_fill (W:World):Grew Tryz.prog 249 #[.agg #[]] W (Ph.nm (.fill)):=by
 unfold Ph.nm
 have hon:=fun cs=>(Only.refl [] W).alloc (.cells cs 199)
 go_enter Tryz.func249,Tryz.ntmps249
 go_wp2_with fail
 go_ret
 exact⟨rfl,hon _⟩
theorem nm_large (n:Nat) (W:World):Grew Tryz.prog 252 #[.agg #[.int .i64 n]] W (Ph.nm (.large n)):=by
 unfold Ph.nm
 have hon:=fun cs=>(Only.refl [] W).alloc (.cells cs 208)
 go_enter Tryz.func252,Tryz.ntmps252
 go_wp2_with fail
 go_ret
 exact⟨rfl,hon _⟩
theorem nm_find (a:Int) (W:World):Grew Tryz.prog 253 #[.agg #[.int .i64 a]] W (Ph.nm (.find a)):=by
 unfold Ph.nm
 have hon:=fun cs=>(Only.refl [] W).alloc (.cells cs 211)
 go_enter Tryz.func253,Tryz.ntmps253
 go_wp2_with fail
 go_ret
 exact⟨rfl,hon _⟩
theorem nm_put (k:Nat) (a:Int) (W:World):Grew Tryz.prog 254 #[.agg #[.int .i64 k,.int .i64 a]] W (Ph.nm (.put k a)):=by
 unfold Ph.nm
 have hon:=fun cs=>(Only.refl [] W).alloc (.cells cs 214)
 go_enter Tryz.func254,Tryz.ntmps254
 go_wp2_with fail
 go_ret
 exact⟨rfl,hon _⟩
theorem nm_back (W:World):Grew Tryz.prog 255 #[.agg #[]] W (Ph.nm (.back)):=by
 unfold Ph.nm
 have hon:=fun cs=>(Only.refl [] W).alloc (.cells cs 217)
 go_enter Tryz.func255,Tryz.ntmps255
 go_wp2_with fail
 go_ret
 exact⟨rfl,hon _⟩
theorem nm_give (s a:Int) (W:World):Grew Tryz.prog 256 #[.agg #[.int .i64 s,.int .i64 a]] W (Ph.nm (.give s a)):=by
 unfold Ph.nm
 have hon:=fun cs=>(Only.refl [] W).alloc (.cells cs 221)
 go_enter Tryz.func256,Tryz.ntmps256
 go_wp2_with fail
 go_ret
 exact⟨rfl,hon _⟩
theorem nm_drain (W:World):Grew Tryz.prog 257 #[.agg #[]] W (Ph.nm (.drain)):=by
 unfold Ph.nm
 have hon:=fun cs=>(Only.refl [] W).alloc (.cells cs 222)
 go_enter Tryz.func257,Tryz.ntmps257
 go_wp2_with fail
 go_ret
 exact⟨rfl,hon _⟩
theorem inv_take (x:Value) (W:World):(invoke (.fn (.method "freehold/heap.name") #[]) #[.iface 191 x]).run Tryz.prog W=.ok (.enter 247 #[x]) W:=by kernel_rfl
theorem inv_transfer (x:Value) (W:World):(invoke (.fn (.method "freehold/heap.name") #[]) #[.iface 194 x]).run Tryz.prog W=.ok (.enter 248 #[x]) W:=by kernel_rfl
theorem inv_central (x:Value) (W:World):(invoke (.fn (.method "freehold/heap.name") #[]) #[.iface 200 x]).run Tryz.prog W=.ok (.enter 250 #[x]) W:=by kernel_rfl
theorem inv_grow (x:Value) (W:World):(invoke (.fn (.method "freehold/heap.name") #[]) #[.iface 202 x]).run Tryz.prog W=.ok (.enter 251 #[x]) W:=by kernel_rfl
theorem inv_fill (x:Value) (W:World):(invoke (.fn (.method "freehold/heap.name") #[]) #[.iface 199 x]).run Tryz.prog W=.ok (.enter 249 #[x]) W:=by kernel_rfl
theorem inv_large (x:Value) (W:World):(invoke (.fn (.method "freehold/heap.name") #[]) #[.iface 208 x]).run Tryz.prog W=.ok (.enter 252 #[x]) W:=by kernel_rfl
theorem inv_find (x:Value) (W:World):(invoke (.fn (.method "freehold/heap.name") #[]) #[.iface 211 x]).run Tryz.prog W=.ok (.enter 253 #[x]) W:=by kernel_rfl
theorem inv_put (x:Value) (W:World):(invoke (.fn (.method "freehold/heap.name") #[]) #[.iface 214 x]).run Tryz.prog W=.ok (.enter 254 #[x]) W:=by kernel_rfl
theorem inv_back (x:Value) (W:World):(invoke (.fn (.method "freehold/heap.name") #[]) #[.iface 217 x]).run Tryz.prog W=.ok (.enter 255 #[x]) W:=by kernel_rfl
theorem inv_give (x:Value) (W:World):(invoke (.fn (.method "freehold/heap.name") #[]) #[.iface 221 x]).run Tryz.prog W=.ok (.enter 256 #[x]) W:=by kernel_rfl
theorem inv_drain (x:Value) (W:World):(invoke (.fn (.method "freehold/heap.name") #[]) #[.iface 222 x]).run Tryz.prog W=.ok (.enter 257 #[x]) W:=by kernel_rfl
set_option maxRecDepth 100000 in
set_option maxHeartbeats 2000000 in
theorem hPhase_at {P:Hp} {S:HS} {w:World} {FP:List Nat} (h:HSys P S w FP) {t:Nat} (ht:t<P.nt):Grew Tryz.prog 28 #[.pointer (some ⟨P.h,0,none⟩),.int .i64 t] w (S.ph t).nm:=by
 have CM:=Lib.hid (hmade2_at h)
 have CE:=Lib.hid (hthere_at h ht)
 obtain⟨_,_,n1,n2,_,n4,_⟩:=h.nums
 have z8:=h.hcells.c8
 obtain⟨_,_,z2,_⟩:=h.trow ht
 clear h
 generalize P.nt=nt at *
 generalize hp:S.ph t=p at *
 cases p with
 |none=>
  unfold Ph.val at z2
  have e1:=ph_eql0
  go_enter Tryz.func28,Tryz.ntmps28
  go_wp2_with (first|(go_at_call 30;with_reducible refine Still.use CM.out ?_)|(go_at_call 52;with_reducible refine Still.use CE.out ?_))
  go_ret
  exact⟨rfl,Only.refl _ _⟩
 |take k=>
  unfold Ph.val at z2
  have e1:=ph_eql 191 (.agg #[.int .i64 k])
  have ei:=inv_take (.agg #[.int .i64 k]) w
  have CN:=Lib.hid (nm_take k w)
  go_enter Tryz.func28,Tryz.ntmps28
  go_wp2_with (first|(go_at_call 30;with_reducible refine Still.use CM.out ?_)|(go_at_call 52;with_reducible refine Still.use CE.out ?_))
  refine Grew.use CN.out (fun w1 ho=>?_)
  go_wp2_with fail
  go_ret
  exact⟨rfl,ho⟩
 |transfer k n=>
  unfold Ph.val at z2
  have e1:=ph_eql 194 (.agg #[.int .i64 k,.int .i64 n])
  have ei:=inv_transfer (.agg #[.int .i64 k,.int .i64 n]) w
  have CN:=Lib.hid (nm_transfer k n w)
  go_enter Tryz.func28,Tryz.ntmps28
  go_wp2_with (first|(go_at_call 30;with_reducible refine Still.use CM.out ?_)|(go_at_call 52;with_reducible refine Still.use CE.out ?_))
  refine Grew.use CN.out (fun w1 ho=>?_)
  go_wp2_with fail
  go_ret
  exact⟨rfl,ho⟩
 |central k n=>
  unfold Ph.val at z2
  have e1:=ph_eql 200 (.agg #[.int .i64 k,.int .i64 n])
  have ei:=inv_central (.agg #[.int .i64 k,.int .i64 n]) w
  have CN:=Lib.hid (nm_central k n w)
  go_enter Tryz.func28,Tryz.ntmps28
  go_wp2_with (first|(go_at_call 30;with_reducible refine Still.use CM.out ?_)|(go_at_call 52;with_reducible refine Still.use CE.out ?_))
  refine Grew.use CN.out (fun w1 ho=>?_)
  go_wp2_with fail
  go_ret
  exact⟨rfl,ho⟩
 |grow k n=>
  unfold Ph.val at z2
  have e1:=ph_eql 202 (.agg #[.int .i64 k,.int .i64 n])
  have ei:=inv_grow (.agg #[.int .i64 k,.int .i64 n]) w
  have CN:=Lib.hid (nm_grow k n w)
  go_enter Tryz.func28,Tryz.ntmps28
  go_wp2_with (first|(go_at_call 30;with_reducible refine Still.use CM.out ?_)|(go_at_call 52;with_reducible refine Still.use CE.out ?_))
  refine Grew.use CN.out (fun w1 ho=>?_)
  go_wp2_with fail
  go_ret
  exact⟨rfl,ho⟩
 |fill=>
  unfold Ph.val at z2
  have e1:=ph_eql 199 (.agg #[])
  have ei:=inv_fill (.agg #[]) w
  have CN:=Lib.hid (nm_fill w)
  go_enter Tryz.func28,Tryz.ntmps28
  go_wp2_with (first|(go_at_call 30;with_reducible refine Still.use CM.out ?_)|(go_at_call 52;with_reducible refine Still.use CE.out ?_))
  refine Grew.use CN.out (fun w1 ho=>?_)
  go_wp2_with fail
  go_ret
  exact⟨rfl,ho⟩
 |large n=>
  unfold Ph.val at z2
  have e1:=ph_eql 208 (.agg #[.int .i64 n])
  have ei:=inv_large (.agg #[.int .i64 n]) w
  have CN:=Lib.hid (nm_large n w)
  go_enter Tryz.func28,Tryz.ntmps28
  go_wp2_with (first|(go_at_call 30;with_reducible refine Still.use CM.out ?_)|(go_at_call 52;with_reducible refine Still.use CE.out ?_))
  refine Grew.use CN.out (fun w1 ho=>?_)
  go_wp2_with fail
  go_ret
  exact⟨rfl,ho⟩
 |find a=>
  unfold Ph.val at z2
  have e1:=ph_eql 211 (.agg #[.int .i64 a])
  have ei:=inv_find (.agg #[.int .i64 a]) w
  have CN:=Lib.hid (nm_find a w)
  go_enter Tryz.func28,Tryz.ntmps28
  go_wp2_with (first|(go_at_call 30;with_reducible refine Still.use CM.out ?_)|(go_at_call 52;with_reducible refine Still.use CE.out ?_))
  refine Grew.use CN.out (fun w1 ho=>?_)
  go_wp2_with fail
  go_ret
  exact⟨rfl,ho⟩
 |put k a=>
  unfold Ph.val at z2
  have e1:=ph_eql 214 (.agg #[.int .i64 k,.int .i64 a])
  have ei:=inv_put (.agg #[.int .i64 k,.int .i64 a]) w
  have CN:=Lib.hid (nm_put k a w)
  go_enter Tryz.func28,Tryz.ntmps28
  go_wp2_with (first|(go_at_call 30;with_reducible refine Still.use CM.out ?_)|(go_at_call 52;with_reducible refine Still.use CE.out ?_))
  refine Grew.use CN.out (fun w1 ho=>?_)
  go_wp2_with fail
  go_ret
  exact⟨rfl,ho⟩
 |back=>
  unfold Ph.val at z2
  have e1:=ph_eql 217 (.agg #[])
  have ei:=inv_back (.agg #[]) w
  have CN:=Lib.hid (nm_back w)
  go_enter Tryz.func28,Tryz.ntmps28
  go_wp2_with (first|(go_at_call 30;with_reducible refine Still.use CM.out ?_)|(go_at_call 52;with_reducible refine Still.use CE.out ?_))
  refine Grew.use CN.out (fun w1 ho=>?_)
  go_wp2_with fail
  go_ret
  exact⟨rfl,ho⟩
 |give s a=>
  unfold Ph.val at z2
  have e1:=ph_eql 221 (.agg #[.int .i64 s,.int .i64 a])
  have ei:=inv_give (.agg #[.int .i64 s,.int .i64 a]) w
  have CN:=Lib.hid (nm_give s a w)
  go_enter Tryz.func28,Tryz.ntmps28
  go_wp2_with (first|(go_at_call 30;with_reducible refine Still.use CM.out ?_)|(go_at_call 52;with_reducible refine Still.use CE.out ?_))
  refine Grew.use CN.out (fun w1 ho=>?_)
  go_wp2_with fail
  go_ret
  exact⟨rfl,ho⟩
 |drain=>
  unfold Ph.val at z2
  have e1:=ph_eql 222 (.agg #[])
  have ei:=inv_drain (.agg #[]) w
  have CN:=Lib.hid (nm_drain w)
  go_enter Tryz.func28,Tryz.ntmps28
  go_wp2_with (first|(go_at_call 30;with_reducible refine Still.use CM.out ?_)|(go_at_call 52;with_reducible refine Still.use CE.out ?_))
  refine Grew.use CN.out (fun w1 ho=>?_)
  go_wp2_with fail
  go_ret
  exact⟨rfl,ho⟩
end Go.Proofs.YtcidjimefnhacaaGreatDoor
