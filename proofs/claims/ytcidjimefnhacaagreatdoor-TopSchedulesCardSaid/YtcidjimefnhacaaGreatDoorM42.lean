/- TopSchedules, a part of the proof: Rt, Rn. -/
import Derived.Test.YtcidjimefnhacaaGreatDoorM40
import Derived.Test.YtcidjimefnhacaaGreatDoorM41
import Derived.Deep.DeepCutAuto
import Derived.Deep.CutRange
set_option linter.unusedVariables false
set_option linter.unusedSimpArgs false
namespace Go.Proofs.YtcidjimefnhacaaGreatDoor
open Go.RowKit
open Go.Shelf
attribute [local go_sem] Oper.semAt_some
theorem Ctx.fork {P:Hp} {Sc:HS} {w Wl:World} {FP:List Nat} {Ls:World->List Nat->Prop} {bx:List (Nat×TypeId×Array Value)} (F:Framed Ls) {b:Nat} {t:TypeId} {cs:Array Value} (h:Ctx P Sc w FP Ls ((b,t,cs)::bx) Wl) (hnb:∀x∈bx,x.1≠b) (hnw:w.heap.size<=b):
 ∃FP2,(∀x∈FP2,x<Wl.heap.size)/\3<=Wl.heap.size/\∀W' cs',Only [b] Wl W'->Blk W' b t cs'->Ctx P Sc W' FP2 Ls ((b,t,cs')::bx) W'/\∀FPx,(∀x∈FPx,x∈FP2\/w.heap.size<=x)->∀Sc' Ls' bx' W2,Ctx P Sc' W' FPx Ls' bx' W2->Ctx P Sc' w FP Ls' bx' W2:=by
 obtain⟨⟨g1,g2⟩,h1,⟨FPc,fs,h2,h3,h4,h5,h6⟩,h7⟩:=h
 obtain⟨hb,hbf⟩:=h6 (b,t,cs) (by simp)
 have h3b:3<=b:=Nat.le_trans g2 hnw
 have hin:∀x∈FPc++fs,x∈FP\/w.heap.size<=x:=fun x hx=>(List.mem_append.1 hx).elim (h4 x) (fun h=>(h5 x h).1)
 have hlt:∀x∈FPc++fs,x<Wl.heap.size:=fun x hx=>(List.mem_append.1 hx).elim (h2.lt x) (F.lt h3 x)
 have h3s:∀x∈FPc++fs,3<=x:=fun x hx=>(hin x hx).elim (g1 x) (fun h=>Nat.le_trans g2 h)
 refine⟨FPc++fs,hlt,Nat.le_trans g2 h1.size,fun W' cs' ho hB=>⟨⟨⟨h3s,Nat.le_trans (Nat.le_trans g2 h1.size) ho.size⟩,Only.refl _ _,⟨FPc,fs,h2.only ho (fun x hx e=>?_) (by simpa using h3b),F.only h3 ho (fun x hx e=>?_),fun x hx=>.inl (List.mem_append_left _ hx),fun x hx=>⟨.inl (List.mem_append_right _ hx),(h5 x hx).2⟩,fun x hx=>?_⟩,fun x hx=>?_⟩,fun FPx hFx Sc' Ls' bx' W2 hc=>?_⟩⟩
 ·simp at e;subst e;exact hb hx
 ·simp at e;subst e;exact hbf hx
 ·rcases List.mem_cons.1 hx with rfl|hx
  ·exact⟨hb,hbf⟩
  ·exact h6 x (mcm _ hx)
 ·rcases List.mem_cons.1 hx with rfl|hx
  ·exact hB
  ·exact(h7 x (mcm _ hx)).only ho (by simpa using hnb x hx)
 ·obtain⟨_,k1,⟨FPd,fd,k2,k3,k4,k5,k6⟩,k7⟩:=hc
  have hw':Only FP w W':=h1.then_ ho (fun x hx=>.inr (by simp at hx;subst hx;exact hnw))
  have hin2:∀x∈FPx,x∈FP\/w.heap.size<=x:=fun x hx=>(hFx x hx).elim (hin x) .inr
  have key:∀x,(x∈FPx\/W'.heap.size<=x)->x∈FP\/w.heap.size<=x:=fun x hx=>hx.elim (hin2 x) (fun h=>.inr (Nat.le_trans hw'.size h))
  exact⟨⟨g1,g2⟩,hw'.then_ k1 hin2,⟨FPd,fd,k2,k3,fun x hx=>key x (k4 x hx),fun x hx=>⟨key x (k5 x hx).1,(k5 x hx).2⟩,k6⟩,k7⟩
theorem Ctx.far {P:Hp} {Sc:HS} {w W:World} {FP:List Nat} {Ls:World->List Nat->Prop} {bx:List (Nat×TypeId×Array Value)} (F:Framed Ls) (h:Ctx P Sc w FP Ls bx W) {D:Nat} (hD:D<w.heap.size) (hF:D∉FP) (h3:3<=D) (hd:w.heap[D]? =some (.deferred (some []))) (o:Obj):W.heap[D]? =some (.deferred (some []))/\Ctx P Sc w (D::FP) Ls bx (W.putObj D o):=by
 obtain⟨⟨g1,g2⟩,h1,⟨FPc,fs,h2,hs,h4,h5,h6⟩,h7⟩:=h
 have hdW:W.heap[D]? =some (.deferred (some [])):=(h1.block D hD hF).trans hd
 have ho:Only [D] W (W.putObj D o):=(Only.refl [D] W).grown (grownBy_putObj' W D o) (fun k e=>by injection e with e;subst e;exact .inl (by simp))
 have hn:∀x,(x∈FP\/w.heap.size<=x)->x≠D:=fun x hx e=>by subst e;rcases hx with hx|hx;exact hF hx;omega
 refine⟨hdW,⟨fun x hx=>(List.mem_cons.1 hx).elim (fun e=>e▸h3) (g1 x),g2⟩,(h1.mono (fun x hx=>mcm _ hx)).then_ ho (fun x hx=>.inl (by simp at hx;subst hx;exact mcs ..)),⟨FPc,fs,h2.only ho (fun x hx e=>?_) (by simpa using h3),F.only hs ho (fun x hx e=>?_),fun x hx=>(h4 x hx).imp_left (mcm _),fun x hx=>⟨(h5 x hx).1.imp_left (mcm _),(h5 x hx).2⟩,h6⟩,fun x hx=>(h7 x hx).only ho (fun e=>?_)⟩
 ·simp at e;exact hn x (h4 x hx) e
 ·simp at e;exact hn x (h5 x hx).1 e
 ·simp at e
  have:=h7 x hx
  unfold Blk at this
  rw[e,hdW] at this
  cases this
def noPanic (Q:Exit->Act->World->Prop):Exit->Act->World->Prop
 | .panic _,_,_=>False
 | .normal,a,w=>Q .normal a w
 | .ret,a,w=>Q .ret a w
 | .exit i,a,w=>Q (.exit i) a w
 | .goto i,a,w=>Q (.goto i) a w
 | .outgrown,a,w=>Q .outgrown a w
theorem wp_noPanic {c:Code} {Q:Exit->Act->World->Prop} {a:Act} {w:World} (h:c.wp Tryz.prog (noPanic Q) a w):c.wp Tryz.prog Q a w:=by
 refine wp_mono h ?_
 intro e a w h
 cases e<;>first|exact h|exact h.elim
theorem wp_name {c:Code} {Q:Exit->Act->World->Prop} {tm:Array Value} {ds:List Deferred} {w:World} (h:∀T:Array Value,T=tm->c.wp Tryz.prog Q {tmps:=T,defers:=ds} w):c.wp Tryz.prog Q {tmps:=tm,defers:=ds} w:=h tm rfl
set_option maxRecDepth 100000 in
set_option maxHeartbeats 16000000 in
theorem rstep_free {P:Hp} {Q:RP} {pr:Nat->List Ac} {R:RS} {S:HS} {who:Who} {w W:World} {FP:List Nat} {bx:List (Nat×TypeId×Array Value)} (h:Ctx P S w FP (RunRec P Q pr R) bx W) (hI:Inv P S who) {t:Nat} (ht:t<P.nt) (h3:P.nt<=3) {p:Ph} (hp:S.ph t=p) (hn:p≠ .none) {a:Ac} (ha:a.Ok t) (hk:a.k=1) (hat:(pr t)[R.bg t-1]? =some a) (hb1:1<=R.bg t) (hb:R.bg t<=40) (hl:R.ev.length<=5000) (hlp:(pr t).length<=32) (hbz:R.bz t=true):
 Calls Tryz.prog 56 #[.pointer (some ⟨Q.p,0,none⟩),.int .i64 t] W fun e W'=>e=.returned (.tuple #[])/\∃S1 p' x er,PStep P S t p S1 p' (x,er)/\((p'≠ .none/\Ctx P (S1.phs t p') w FP (RunRec P Q pr R) bx W')\/(p'=.none/\Ctx P (S1.phs t .none) w FP (RunRec P Q pr (R.fin t a x er)) bx W')):=by
 obtain⟨sn,_⟩:=ha.sn
 obtain⟨hs1,hs2⟩:=ha.s
 obtain⟨s,hs'⟩:∃s:Nat,a.s=s:=⟨a.s.toNat,sn.symm⟩
 have es:a.s.toNat=s:=by omega
 have hs16:(s:Int)<16:=by omega
 have ht4:t<4:=by omega
 have ht4':(t:Int)<4:=by omega
 obtain⟨ak,a_s,az,aal,aw,av⟩:=a
 dsimp only at hs' es hs1 hs2 sn hk
 subst hk
 subst hs'
 clear sn ha
 obtain⟨k,hkb⟩:∃k,R.bg t=k+1:=⟨R.bg t-1,by omega⟩
 have FR:=fun R=>RunRec.framed P Q pr R
 have hc1:=h.push (FR R) #[.int .i64 t] 3
 have CT:=Lib.hid (fun (W1:World) (bx':List (Nat×TypeId×Array Value)) (hh:Ctx P S w FP (RunRec P Q pr R) bx' W1)=>hh.call (f:=69) (args:=#[.pointer (some ⟨P.h,0,none⟩),.int .i64 t]) (α:=HS×Ph×Int×Int) (R:=fun x e=>e=.returned (.tuple #[.bool x.2.1.isN,.agg #[.int .i64 x.2.2.1,.int .i64 x.2.2.2],.int .i64 0])/\PStep P S t p x.1 x.2.1 (x.2.2.1,x.2.2.2)) (S':=fun x=>x.1.phs t x.2.1) (FR R) (fun FPc hs=>(hStep_at hs hI ht hp hn).mono (fun e w' ⟨S',p',x,er,q1,q2,q3⟩=>⟨(S',p',x,er),⟨q2,q1⟩,q3⟩)))
 obtain⟨_,_,_,_,hrc,_⟩:=hc1.rcells
 have z0:=hrc.c0
 have x0:=(bxCell hc1 (mcs ..) 0 rfl).1
 have hc1d:=hc1.still (FR R) ((Only.refl [] _).drew)
 have hc2:Ctx P S w FP (RunRec P Q pr R) (((W.alloc (.cells #[.int .i64 t] 3)).heap.size,66,#[.int .i64 0,.int .i64 0])::(W.heap.size,3,#[.int .i64 t])::bx) _:=hc1d.push (FR R) #[.int .i64 0,.int .i64 0] 66
 have hc2n:=hc1.push (FR R) #[.int .i64 0,.int .i64 0] 66
 obtain⟨_,_,_,_,hrc2,_⟩:=hc2n.rcells
 have z0':=hrc2.c0
 have x0':=(bxCell hc2n (mcm _ (mcs ..)) 0 rfl).1
 have hWH:w.heap.size<=(W.alloc (.cells #[.int .i64 t] 3)).heap.size:=hc1.only.size
 have HNB:Hid (∀z∈(W.heap.size,3,#[Value.int .i64 t])::bx,z.1≠(W.alloc (.cells #[.int .i64 t] 3)).heap.size):=fun z hz e=>by have:=(hc1.box hz).lt;omega
 clear hrc hrc2 hc2n
 have HAT:=Lib.hid hat
 have HPN:=Lib.hid (And.intro hp hn)
 clear hat hp hn h
 refine(callsIn_wide (n:=5)).1 ?_
 refine callsIn_of_wp_marks Tryz.func56 rfl trivial ?_ rfl
 simp only[Tryz.ntmps56,List.size_toArray,List.length_cons,List.length_nil,Nat.reduceAdd,Nat.reduceSub,Array.replicate_succ,Array.replicate_zero,List.push_toArray,List.append_toArray,List.nil_append,List.cons_append]
 refine wpIn_wide.2 ?_
 refine wp_noPanic ?_
 go_upto_region 1 with fail
 go_cut [4,5,6] from 11 to 20 (fun s4 s5 s6 wx=>∃(S1:HS) (p':Ph) (x er:Int) (H2:Nat),s4=.bool p'.isN/\s5=.pointer (some ⟨H2,0,none⟩)/\PStep P S t p S1 p' (x,er)/\Ctx P (S1.phs t p') w FP (RunRec P Q pr R) ((H2,66,#[.int .i64 x,.int .i64 er])::(W.heap.size,3,#[.int .i64 t])::bx) wx)
 case first=>
  go_wp2_with fail
  generalize W.alloc (.cells #[.int .i64 t] 3)=W1 at *
  go_region_law (first
   |(go_simp;go_at_call 69;refine(CT.out _ _ hc1d).mono ?_;rintro _ wM ⟨⟨S1,p',x,er⟩,⟨rfl,hps⟩,hbM⟩;dsimp only at hps hbM;have hZ:=hbM.push (FR R) #[.int .i64 x,.int .i64 er] 66)
   |(go_simp;go_at_call 69;refine(CT.out _ _ hc2).mono ?_;rintro _ wM ⟨⟨S1,p',x,er⟩,⟨rfl,hps⟩,hbM⟩;dsimp only at hps hbM;obtain⟨r0,f0⟩:=bxCell hbM (mcs ..) 0 rfl;obtain⟨r1,f1⟩:=bxCell hbM (mcs ..) 1 rfl;have hZ:=hbM.resL (FR R) (mcs ..) hWH ((W.heap.size,3,#[.int .i64 t])::bx) (fun z hz=>⟨mcm _ hz,HNB.out z hz⟩) x er))
  all_goals (go_wp2_with fail;go_meet;exact⟨S1,p',x,er,_,rfl,rfl,hps,hZ⟩)
 case rest=>
 obtain⟨S1,p',x,er,H2,rfl,rfl,hps,hY⟩:=hcut
 clear hc1 hc1d hc2 CT z0 x0 z0' x0'
 have HPS:=Lib.hid hps
 clear hps
 generalize hWZ:wc=WZ at *
 clear hWZ
 have x0:=(bxCell hY (mcm _ (mcs ..)) 0 rfl).1
 obtain⟨_,_,_,_,hrY,_⟩:=hY.rcells
 have zz:=hrY.bz t ht4
 have zg:=hrY.fz (26+t)
 rw[hbz] at zz
 have HY:=Lib.hid hY
 clear hY hrY
 cases hN:p'.isN with
 |false=>
  have HQ:Hid (p'≠ .none):=fun e=>by rw[e] at hN;cases hN
  clear hN
  go_wp2_with fail
  go_quiet (fail)
  go_wp2_with fail
  refine⟨_,results_none rfl _ _ _,?_⟩
  exact⟨rfl,S1,p',x,er,HPS.out,.inl ⟨HQ.out,(HY.out.still (FR R) ((Only.refl [] _).drewN _)).less (fun x hx=>mcm _ (mcm _ hx))⟩⟩
 |true=>
  have HPN2:Hid (p'=.none):=by cases p'<;>first|rfl|cases hN
  clear hN
  go_wp2_with fail
  go_quiet (fail)
  have hYq:=HY.out.still (FR R) ((Only.refl [] _).drewN nq)
  generalize World.drewN WZ nq=Wq at *
  obtain⟨_,_,_,_,hrY,_⟩:=hYq.rcells
  clear zz zg x0
  have zz:=hrY.bz t ht4
  have zg:=hrY.fz (26+t)
  have x0:=(bxCell hYq (mcm _ (mcs ..)) 0 rfl).1
  have hca:=(hYq.setRun (R':={R with bz:=upd R.bz t false}) (26+t) (.bool false) rfl (fun v k _=>runF_bz t ht4 false k)).still (FR _) ((Only.refl [] _).drew)
  clear HY hYq hrY
  go_wp2_with fail
  go_region
  generalize World.drew (World.setCell Wq ⟨Q.p,26+t,none⟩ (.bool false))=Wa at *
  clear zz zg x0
  go_upto_region 4 with fail
  go_cut [7] from 39 to 55 (fun s7 wx=>∃H3:Nat,s7=.pointer (some ⟨H3,0,none⟩)/\Ctx P (S1.phs t p') w FP (RunRec P Q pr {R with bz:=upd R.bz t false}) ((H3,50,#[.int .i64 1,.int .i64 (s:Nat),.int .i64 az,.int .i64 aal,.int .i64 aw,.int .i64 av])::((H2,66,#[.int .i64 x,.int .i64 er])::(W.heap.size,3,#[.int .i64 t])::bx)) wx)
  case first=>
   have hcp:=hca.push (FR _) #[.int .i64 1,.int .i64 (s:Nat),.int .i64 az,.int .i64 aal,.int .i64 aw,.int .i64 av] 50
   have key:∀(bx':List (Nat×TypeId×Array Value)) (W1:World),Ctx P (S1.phs t p') w FP (RunRec P Q pr {R with bz:=upd R.bz t false}) bx' W1->∃(A1:Option Addr) (c1 g off:Nat),A1=some ⟨g,off,none⟩/\(pr t).length<=c1/\k<(pr t).length/\Q.pv t=.slice A1 (pr t).length c1/\W1.cell? ⟨Q.p,1,none⟩=some (.slice (some ⟨Q.gp,0,none⟩) P.nt Q.cp)/\P.nt<=Q.cp/\W1.cell? ⟨Q.p,18+t,none⟩=some (.int .i64 ((k:Int)+1))/\W1.cell? ⟨Q.gp,t,none⟩=some (.slice A1 (pr t).length c1)/\
    W1.cell? ⟨g,off+k*6,none⟩=some (.int .i64 1)/\W1.cell? ⟨g,off+k*6+1,none⟩=some (.int .i64 (s:Nat))/\W1.cell? ⟨g,off+k*6+2,none⟩=some (.int .i64 az)/\W1.cell? ⟨g,off+k*6+3,none⟩=some (.int .i64 aal)/\W1.cell? ⟨g,off+k*6+4,none⟩=some (.int .i64 aw)/\W1.cell? ⟨g,off+k*6+5,none⟩=some (.int .i64 av):=by
    intro bx' W1 hh
    obtain⟨_,_,_,_,hr1,_,hcp⟩:=hh.rcells
    obtain⟨A1,c1,p1,p2,p3,p4⟩:=hh.rprog ht
    have hat':(pr t)[k]? =some ⟨1,(s:Nat),az,aal,aw,av⟩:=by have:=HAT.out;rw[hkb,Nat.add_sub_cancel] at this;exact this
    obtain⟨g,off,rfl,p5⟩:=p4 k _ hat'
    have zb:=hr1.bg t ht4
    rw[show({R with bz:=upd R.bz t false}:RS).bg t=k+1 from hkb] at zb
    exact⟨_,c1,g,off,rfl,p3,(List.getElem?_eq_some_iff.1 hat').1,p2,hr1.c1,hcp,zb,p1,p5 0 _ rfl,p5 1 _ rfl,p5 2 _ rfl,p5 3 _ rfl,p5 4 _ rfl,p5 5 _ rfl⟩
   obtain⟨A1,c1,g,off,hA1,hle,hkl,e1,m0,m1,m2,m3,a0,a1,a2,a3,a4,a5⟩:=key _ _ hca
   have hcz:=hca.push (FR _) #[.int .i64 0,.int .i64 0,.int .i64 0,.int .i64 0,.int .i64 0,.int .i64 0] 50
   obtain⟨A2,c2,g2,off2,hA2,_,_,e2,n0,n1,n2,n3,b0,b1,b2,b3,b4,b5⟩:=key _ _ hcz
   rw[e1] at e2
   injection e2 with e2 _ e3
   subst e3
   rw[hA1,hA2] at e2
   injection e2 with e2
   injection e2 with e2 e4 _
   subst e2 e4 hA1 hA2
   have x0:=(bxCell hca (mcm _ (mcs ..)) 0 rfl).1
   have x0':=(bxCell hcz (mcm _ (mcm _ (mcs ..))) 0 rfl).1
   clear key hcz
   have HCP:=Lib.hid hcp
   clear hcp hca
   generalize (pr t).length=n at *
   generalize P.nt=nt at *
   go_wp2_with fail
   go_region
   all_goals (go_wp2_with fail;go_meet;exact⟨_,rfl,HCP.out.still (FR _) ((Only.refl [] _).drew)⟩)
  case rest=>
  obtain⟨H3,rfl,hcb⟩:=hcut
  clear hca
  generalize hWb:wc=Wb at *
  clear hWb
  have y0:=(bxCell hcb (mcs ..) 0 rfl).1
  have y1:=(bxCell hcb (mcs ..) 1 rfl).1
  have y2:=(bxCell hcb (mcs ..) 2 rfl).1
  have y3:=(bxCell hcb (mcs ..) 3 rfl).1
  have y4:=(bxCell hcb (mcs ..) 4 rfl).1
  have y5:=(bxCell hcb (mcs ..) 5 rfl).1
  have CO:=rop_at Wb ⟨1,(s:Nat),az,aal,aw,av⟩
  rw[show opA ⟨1,(s:Nat),az,aal,aw,av⟩=⟨1,0,0,0⟩ from rfl] at CO
  unfold Op4.val Ac.val at CO
  dsimp only at CO
  have HCB:=Lib.hid hcb
  have HCO:=Lib.hid CO
  clear hcb CO
  go_wp2_with fail
  refine Grew.use HCO.out (fun Wc hob=>?_)
  have hcc:=(HCB.out.still (FR _) hob).push (FR _) #[.int .i64 1,.int .i64 0,.int .i64 0,.int .i64 0] 64
  have h43:3<=Wc.heap.size:=by
   obtain⟨⟨_,q⟩,q2,_⟩:=HCB.out.still (FR _) hob
   exact Nat.le_trans q q2.size
  have h4w:=((HCB.out.still (FR _) hob).box (mcm _ (mcm _ (mcs ..)))).lt
  dsimp only at h4w
  have HNB4:Hid (∀z∈_,_):=(fun z hz e=>by have:=((HCB.out.still (FR _) hob).box hz).lt;omega:∀z∈((H3,50,#[.int .i64 1,.int .i64 (s:Nat),.int .i64 az,.int .i64 aal,.int .i64 aw,.int .i64 av])::((H2,66,#[.int .i64 x,.int .i64 er])::(W.heap.size,3,#[.int .i64 t])::bx):List (Nat×TypeId×Array Value)),z.1≠Wc.heap.size)
  have hw4:w.heap.size<=Wc.heap.size:=(HCB.out.still (FR _) hob).only.size
  clear y0 y1 y2 y3 y4 y5 HCB HCO
  have y0:=(bxCell hcc (mcm _ (mcs ..)) 0 rfl).1
  have y1:=(bxCell hcc (mcm _ (mcs ..)) 1 rfl).1
  have v0:=(bxCell hcc (mcm _ (mcm _ (mcs ..))) 0 rfl).1
  have v1:=(bxCell hcc (mcm _ (mcm _ (mcs ..))) 1 rfl).1
  have u0:=(bxCell hcc (mcm _ (mcm _ (mcm _ (mcs ..)))) 0 rfl).1
  have HCC:=Lib.hid hcc
  obtain⟨ve,Ae,ce,rfl,hrd,hown,_⟩:=hcc.rcells
  have zev:=hrd.ev
  have HOWN:=Lib.hid hown
  clear hcc hrd hown
  generalize hEN:R.ev.length=nE at *
  have HEN:=Lib.hid hEN
  clear hEN
  go_wp2_with fail
  generalize hH4:Wc.heap.size=H4 at *
  generalize Wc.alloc (.cells #[.int .i64 1,.int .i64 0,.int .i64 0,.int .i64 0] 64)=Wd at *
  refine(back_any Wd Ae nE ce).mono ?_
  rintro r We ⟨rfl,rfl⟩
  go_wp2_with fail
  rename_i KK hKc
  have hB4:=HCC.out.box (mcs ..)
  have h4l:H4<Wd.heap.size:=hB4.lt
  obtain⟨g,hg,hgl,hEv⟩:=EvsAt.of HOWN.out HEN.out 61
  have hg4:g≠H4:=by
   rcases hg with rfl|hg
   ·omega
   ·exact HCC.out.evOff zev (mcs ..) g hg
  have hgl2:g<Wd.heap.size:=by
   rcases Nat.eq_zero_or_pos nE with e|e
   ·rcases hg with rfl|hg
    ·omega
    ·have:=HOWN.out.lt g hg;omega
   ·exact hgl e
  obtain⟨Wl,hWl⟩:∃Wl,Wl=Wd.alloc (.cells #[.slice Ae nE ce] 61):=⟨_,rfl⟩
  have hls:Wl.heap.size=Wd.heap.size+1:=by rw[hWl];simp
  have HCL:=Lib.hid (HCC.out.still (FR _) (hWl▸(Only.refl [] Wd).alloc _))
  have hBl:=HCL.out.box (mcs ..)
  rw[<-hWl] at hEv ⊢
  have HEV:=Lib.hid hEv
  have HL:=Lib.hid hl
  have ul:Wl.cell? ⟨W.heap.size,0,none⟩=some (.int .i64 t):=(bxCell HCL.out (mcm _ (mcm _ (mcm _ (mcs ..)))) 0 rfl).1
  have hWu:W.heap.size≠H4:=by omega
  have hul:W.heap.size<Wl.heap.size:=World.block_lt_of_cell? Wl _ ul
  clear hWl hg hgl hEv HOWN zev y0 y1 v0 v1 u0 hB4 HCC hl
  refine wp_name ?_
  intro TM hTM
  have tail:∀(D:Nat) (W':World),Wl.heap.size<=D->W'.heap[D]? =some (.deferred (some []))->Only [H4] Wl W'->Blk W' H4 64 (op4c (lastB R.ev t ⟨1,0,0,0⟩))->KK {tmps:=TM,defers:=[{target:=.collected D,args:=#[]}]} W':=by
   intro D W' hD hdf ho hB
   obtain⟨FP2,k1,k2,k3⟩:=HCL.out.fork (FR _) HNB4.out hw4
   obtain⟨hcx,hback⟩:=k3 W' _ ho hB
   have HBACK:=Lib.hid hback
   have u0:=(bxCell hcx (mcm _ (mcm _ (mcm _ (mcs ..)))) 0 rfl).1
   have v0:=(bxCell hcx (mcm _ (mcm _ (mcs ..))) 0 rfl).1
   have v1:=(bxCell hcx (mcm _ (mcm _ (mcs ..))) 1 rfl).1
   generalize hOB:lastB R.ev t ⟨1,0,0,0⟩=ob at *
   have y0:W'.cell? ⟨H4,0,none⟩=some (.int .i64 ob.k):=hB.cell_ 0 rfl
   have y1:W'.cell? ⟨H4,1,none⟩=some (.int .i64 ob.s):=hB.cell_ 1 rfl
   have y2:W'.cell? ⟨H4,2,none⟩=some (.int .i64 ob.al):=hB.cell_ 2 rfl
   have y3:W'.cell? ⟨H4,3,none⟩=some (.int .i64 ob.ad):=hB.cell_ 3 rfl
   have HCX:=Lib.hid hcx
   have HDF:=Lib.hid hdf
   clear hcx hback k3 ho hB hdf ul
   refine hKc _ _ ?_
   subst hTM
   go_wp2_with fail
   refine(revent_e HCX.out ht4 (by show R.bg t<=100;omega) (by show R.ev.length<=10000;have:=HL.out;have:=HEN.out;omega) ob x er).mono ?_
   rintro r Wz ⟨rfl,hcz⟩
   go_wp2_with fail
   have hDF:=HDF.out
   have hDl:=(Array.getElem?_eq_some_iff.1 hDF).1
   have hDn:D∉FP2:=fun hx=>by have:=k1 D hx;omega
   have hf:=hcz.far (FR _) hDl hDn (by omega) hDF (.deferred none)
   obtain⟨hdz,hcy⟩:=hf
   refine⟨by simp,.inl ⟨_,_,rfl,run_takeDeferred hdz,?_⟩⟩
   refine⟨_,results_none rfl _ _ _,?_⟩
   refine⟨rfl,S1,p',x,er,HPS.out,.inr ⟨HPN2.out,?_⟩⟩
   have e:R.fin t ⟨1,(s:Nat),az,aal,aw,av⟩ x er=RS.evt {R with bz:=upd R.bz t false} t true ob x er:=by
    unfold RS.fin RS.evt opE opA
    rw[<-hOB]
    simp
   rw[e]
   have h9:=(HBACK.out (D::FP2) (fun z hz=>by rcases List.mem_cons.1 hz with rfl|hz;exact .inr (by omega);exact .inl hz) _ _ _ _ hcy).less (bx':=bx) (fun x hx=>mcm _ (mcm _ (mcm _ (mcm _ hx))))
   rw[HPN2.out] at h9
   exact h9
  refine(wpIn_wide (n:=5)).1 ?_
  refine wpIn_rangeFunc_ownH rfl (by omega) (gf:=78) (lb:=#[.pointer (some ⟨Wd.heap.size,0,none⟩)]) (by rw[hTM];rfl) trivial (enters_of Tryz.func78 (by kernel_rfl) rfl)
   (back_stops _ (by omega) Wd.heap.size g nE R.ev (by have:=HL.out;omega) Wl HEV.out (by omega) (fun _=>by omega))
   KeepE.trans (fun W' l o o' hl _ _ _=>keepE_put (m:=Wl.heap.size) (by omega) (by omega) o' hl) (Below.refl _ _) (fun _=>rfl)
   (IFree H4 t Wl) (XFree H4 t Wl) (IFree.own (by omega)) (XFree.own (by omega)) ⟨Only.refl _ _,hBl,by simp⟩ (AFree TM Wl) AFree.own
   ?assign ?body ?done ?stop
  case assign=>
   rintro l pre x W' K hi hK
   have hs:=hi.1.size
   have HI:=Lib.hid hi
   have HK:=Lib.hid hK
   clear hK hi
   subst hTM
   unfold Ev.val
   gi_wp2
   refine HK.out _ _ ?_ ?_ ?_ ?_
   ·exact keepsFrom_only (H:=0) ((Only.refl _ _).alloc _) (by omega)
   ·exact keepE_only (H:=W'.heap.size) ((Only.refl _ _).alloc _) (by omega) (by omega)
   ·exact IFree.own (by omega) _ _ _ none HI.out (World.grownBy_alloc _ _ none) (fun r e=>by cases e)
   ·exact⟨W'.heap.size,rfl,hs,Blk.new _ _ _⟩
  case body=>
   rintro l pre x a' W' _ _ ⟨hi1,hi2,hi3⟩ ⟨b,rfl,hb1,hb⟩ _
   obtain⟨i,⟨xt,xa,xe,⟨ok,os,oal,oad⟩,xra,xre⟩⟩:=x
   have hs:=hi1.size
   have HI3:=Lib.hid hi3
   have HI1:=Lib.hid hi1
   have HI2:=Lib.hid hi2
   clear hi3
   subst hTM
   unfold Ev.val
   simp only[List.setIfInBounds_toArray,List.set_cons_zero,List.set_cons_succ]
   have e0:W'.cell? ⟨b,0,none⟩=some (.int .i64 xt):=hb.cell_ 0 rfl
   have e2:W'.cell? ⟨b,2,none⟩=some (.bool xe):=hb.cell_ 2 rfl
   have e3:W'.cell? ⟨b,3,none⟩=some (.int .i64 ok):=hb.cell_ 3 rfl
   have e4:W'.cell? ⟨b,4,none⟩=some (.int .i64 os):=hb.cell_ 4 rfl
   have e5:W'.cell? ⟨b,5,none⟩=some (.int .i64 oal):=hb.cell_ 5 rfl
   have e6:W'.cell? ⟨b,6,none⟩=some (.int .i64 oad):=hb.cell_ 6 rfl
   have eu:W'.cell? ⟨W.heap.size,0,none⟩=some (.int .i64 t):=(hi1.cell (p:=⟨W.heap.size,0,none⟩) hul (by simpa using hWu)).trans ul
   have c0:W'.cell? ⟨H4,0,none⟩=some (.int .i64 1):=hi2.cell_ 0 rfl
   have c1:W'.cell? ⟨H4,1,none⟩=some (.int .i64 0):=hi2.cell_ 1 rfl
   have c2:W'.cell? ⟨H4,2,none⟩=some (.int .i64 0):=hi2.cell_ 2 rfl
   have c3:W'.cell? ⟨H4,3,none⟩=some (.int .i64 0):=hi2.cell_ 3 rfl
   have o0:=hi2.frozen 0
   have o1:=hi2.frozen 1
   have o2:=hi2.frozen 2
   have o3:=hi2.frozen 3
   have hno:¬mtE t ⟨xt,xa,xe,⟨ok,os,oal,oad⟩,xra,xre⟩->KeepsFrom (Wd.heap.size+1) W' W'/\KeepE Wd.heap.size g W' W'/\IFree H4 t Wl (pre++[(i,⟨xt,xa,xe,⟨ok,os,oal,oad⟩,xra,xre⟩)]) W':=fun hne=>by
    refine⟨KeepsFrom.refl _ _,fun _ _ _ h=>h,HI1.out,HI2.out,fun y hy=>?_⟩
    rcases List.mem_append.1 hy with hy|hy
    ·exact HI3.out y hy
    ·simp at hy;subst hy;exact hne
   clear hi1 hi2 hb
   by_cases hxt:xt=(t:Int)
   ·subst hxt
    cases xe with
    |true=>
     have HNO:Hid _:=hno (fun h=>by cases h.2)
     clear hno
     gi_wp2
     all_goals exact HNO.out
    |false=>
     clear hno
     gi_wp2
     have ho:Only [H4] W' ((((W'.setCell ⟨H4,0,none⟩ (.int .i64 ok)).setCell ⟨H4,1,none⟩ (.int .i64 os)).setCell ⟨H4,2,none⟩ (.int .i64 oal)).setCell ⟨H4,3,none⟩ (.int .i64 oad)):=((((Only.refl [H4] W').setCell (p:=⟨H4,0,none⟩) (.inl (by simp)) _).setCell (p:=⟨H4,1,none⟩) (.inl (by simp)) _).setCell (p:=⟨H4,2,none⟩) (.inl (by simp)) _).setCell (p:=⟨H4,3,none⟩) (.inl (by simp)) _
     refine⟨keepsFrom_only ho (by omega),HI1.out.trans ho,?_,rfl,pre,_,rfl,HI3.out,rfl,rfl⟩
     have:=(((HI2.out.set_ 0 (.int .i64 ok)).set_ 1 (.int .i64 os)).set_ 2 (.int .i64 oal)).set_ 3 (.int .i64 oad)
     unfold lastE
     rw[List.getLastD_concat]
     exact this
   ·have HNO:Hid _:=hno (fun h=>hxt h.1)
    clear hno
    have hxb:(xt==(t:Int))=false:=beq_eq_false_iff_ne.2 hxt
    gi_wp2
    all_goals exact HNO.out
  case done=>
   intro D xs W' hD hxs hi hdf
   subst hxs
   refine tail D W' hD hdf hi.1 ?_
   have e:lastB R.ev t ⟨1,0,0,0⟩=⟨1,0,0,0⟩:=lastB_none (by rw[HEN.out];exact hi.2.2)
   rw[e];exact hi.2.1
  case stop=>
   rintro D c pre W' hD ⟨post,hpo⟩ ⟨hx1,hx2,rfl,pre0,y,rfl,hn0,hy⟩ hdf
   refine wpIn_exit ?_
   refine tail D W' hD hdf hx1 ?_
   have e:lastB R.ev t ⟨1,0,0,0⟩=y.2.o:=lastB_found (post:=post) (by rw[HEN.out];exact hpo) hn0 hy
   unfold lastE at hx2
   rw[List.getLastD_concat] at hx2
   rw[e];exact hx2
end Go.Proofs.YtcidjimefnhacaaGreatDoor
namespace Go.Proofs.YtcidjimefnhacaaGreatDoor
open Go.RowKit
set_option maxRecDepth 100000 in
set_option maxHeartbeats 8000000 in
theorem rbegin_malloc {P:Hp} {Q:RP} {pr:Nat->List Ac} {R:RS} {S:HS} {w W:World} {FP:List Nat} {bx:List (Nat×TypeId×Array Value)} (h:Ctx P S w FP (RunRec P Q pr R) bx W) {t:Nat} (ht:t<P.nt) (h3:P.nt<=3) {a:Ac} (ha:a.Ok t) (hb:R.bg t<=40) (hl:R.ev.length<=5000) (hk:a.k=0) (hp:S.ph t=.none):
 Calls Tryz.prog 57 #[.pointer (some ⟨Q.p,0,none⟩),.int .i64 t,a.val] W fun e W'=>e=.returned (.tuple #[])/\Ctx P (S.phs t (phOf P.T (.malloc a.z))) w FP (RunRec P Q pr (R.beg t a)) bx W':=by
 obtain⟨sn,_⟩:=ha.sn
 obtain⟨hs1,hs2⟩:=ha.s
 obtain⟨hz1,hz2,hal⟩:=ha.z hk
 obtain⟨s,hs'⟩:∃s:Nat,a.s=s:=⟨a.s.toNat,sn.symm⟩
 have es:a.s.toNat=s:=by omega
 have hs16:(s:Int)<16:=by omega
 have ht4:t<4:=by omega
 have ht4':(t:Int)<4:=by omega
 obtain⟨ak,a_s,az,aal,aw,av⟩:=a
 dsimp only at hs' es hs1 hs2 sn hk
 dsimp only at hz1 hz2 hal
 subst hk hal
 subst hs'
 clear sn
 have FR:=fun R=>RunRec.framed P Q pr R
 have hc1:=h.push (FR R) #[.int .i64 0,.int .i64 (s:Nat),.int .i64 az,.int .i64 8,.int .i64 aw,.int .i64 av] 50
 have hc2:=(hc1.setRun (R':={R with bg:=upd R.bg t (R.bg t+1)}) (18+t) (.int .i64 ((R.bg t:Int)+1)) rfl (fun v k _=>runF_bg t ht4 (R.bg t+1) k)).still (FR _) ((Only.refl [] _).drew)
 obtain⟨_,_,_,_,hrc,_⟩:=hc1.rcells
 have zb:=hrc.bg t ht4
 have zf:=hrc.fz (18+t)
 have hHW:W.heap.size<(W.alloc (.cells #[.int .i64 0,.int .i64 (s:Nat),.int .i64 az,.int .i64 8,.int .i64 aw,.int .i64 av] 50)).heap.size:=by simp
 clear hrc
 have CST:=Lib.hid (fun (W1:World) (R1:RS) (bx':List (Nat×TypeId×Array Value)) (hh:Ctx P S w FP (RunRec P Q pr R1) bx' W1)=>hh.call (f:=73) (args:=#[.pointer (some ⟨P.h,0,none⟩),.int .i64 t,.agg #[.int .i64 0,.int .i64 az,.int .i64 8,.int .i64 0]]) (α:=Unit) (R:=fun _ e=>e=.returned (.int .i64 0)) (S':=fun _=>S.phs t (phOf P.T (.malloc az))) (FR R1) (fun FPc hs=>(hStart_at hs ht hp (.malloc az) ⟨hz1,hz2⟩).mono (fun e w' hh=>⟨(),hh⟩)))
 unfold Ac.val
 dsimp only
 go_enter Tryz.func57,Tryz.ntmps57
 go_wp2_with fail
 generalize W.alloc (.cells #[.int .i64 0,.int .i64 (s:Nat),.int .i64 az,.int .i64 8,.int .i64 aw,.int .i64 av] 50)=W1 at *
 go_region
 have hsize:W1.heap.size=(World.drew (World.setCell W1 ⟨Q.p,18+t,none⟩ (.int .i64 ((R.bg t:Int)+1)))).heap.size:=by simp[World.setCell]
 rw[hsize] at hHW
 generalize World.drew (World.setCell W1 ⟨Q.p,18+t,none⟩ (.int .i64 ((R.bg t:Int)+1)))=Wa at *
 clear hc1 zb zf hsize
 have x0:=(bxCell hc2 (mcs ..) 0 rfl).1
 have x1:=(bxCell hc2 (mcs ..) 1 rfl).1
 have x2:=(bxCell hc2 (mcs ..) 2 rfl).1
 have x3:=(bxCell hc2 (mcs ..) 3 rfl).1
 have x4:=(bxCell hc2 (mcs ..) 4 rfl).1
 have x5:=(bxCell hc2 (mcs ..) 5 rfl).1
 have CO:=rop_at Wa ⟨0,(s:Nat),az,8,aw,av⟩
 rw[show opA ⟨0,(s:Nat),az,8,aw,av⟩=⟨0,az,8,0⟩ from if_pos rfl] at CO
 unfold Op4.val at CO
 dsimp only at CO
 have HC2:=Lib.hid hc2
 have HCO:=Lib.hid CO
 clear hc2 CO
 go_wp2_with fail
 refine Grew.use HCO.out (fun Wb hob=>?_)
 have hcb:=HC2.out.still (FR _) hob
 have hHb:W.heap.size<Wb.heap.size:=Nat.lt_of_lt_of_le hHW hob.size
 have hcc:=hcb.push (FR _) #[.int .i64 0,.int .i64 az,.int .i64 8,.int .i64 0] 64
 clear hcb HC2 HCO x0 x1 x2 x3 x4 x5 hHW
 have y0:=(bxCell hcc (mcm _ (mcs ..)) 0 rfl).1
 have y1:=(bxCell hcc (mcm _ (mcs ..)) 1 rfl).1
 go_wp2_with fail
 generalize hH2:Wb.heap.size=H2 at *
 generalize Wb.alloc (.cells #[.int .i64 0,.int .i64 az,.int .i64 8,.int .i64 0] 64)=Wc at *
 refine(revent_b hcc ht4 (by show upd R.bg t (R.bg t+1) t<=100;rw[upd_at];omega) (by show R.ev.length<=10000;omega) ⟨0,az,8,0⟩ 0 0).mono ?_
 rintro r Wd ⟨rfl,hcd⟩
 clear hcc y0 y1
 have y0:=(bxCell hcd (mcs ..) 0 rfl).1
 have y1:=(bxCell hcd (mcm _ (mcs ..)) 0 rfl).1
 have y2:=(bxCell hcd (mcm _ (mcs ..)) 1 rfl).1
 obtain⟨_,_,_,_,hrd,_⟩:=hcd.rcells
 have zs:=hrd.sl s (by omega)
 have zf:=hrd.fz (2+s)
 have HCD:=Lib.hid hcd
 clear hcd hrd
 go_wp2_with fail
 go_region
 have hce:=(HCD.out.setRun (R':={(RS.evt {R with bg:=upd R.bg t (R.bg t+1)} t false ⟨0,az,8,0⟩ 0 0) with sl:=upd R.sl s (-2)}) (2+s) (.int .i64 (-2)) rfl (fun v k _=>runF_sl s (by omega) (-2) k)).still (FR _) ((Only.refl [] _).drew)
 generalize World.drew (World.setCell Wd ⟨Q.p,2+s,none⟩ (.int .i64 (-2)))=We at *
 go_wp2_with fail
 replace hce:=hce.still (FR _) ((Only.refl [] _).drew)
 clear y0 y1 y2 zs zf HCD
 go_region_held3 (fun U=>U.cell? ⟨Q.p,0,none⟩=some (.pointer (some ⟨P.h,0,none⟩))/\U.cell? ⟨H2,0,none⟩=some (.int .i64 0)/\U.cell? ⟨H2,1,none⟩=some (.int .i64 az)/\U.cell? ⟨H2,2,none⟩=some (.int .i64 8)/\U.cell? ⟨H2,3,none⟩=some (.int .i64 0))
  (exact⟨hce.rcells.elim (fun _ h=>h.elim (fun _ h=>h.elim (fun _ h=>h.2.1.c0))),(bxCell hce (mcs ..) 0 rfl).1,(bxCell hce (mcs ..) 1 rfl).1,(bxCell hce (mcs ..) 2 rfl).1,(bxCell hce (mcs ..) 3 rfl).1⟩)
  (first
   |(go_at_call 73;with_reducible refine Calls.mono (CST.out _ _ _ hce) ?_;rintro _ wM ⟨_,rfl,hbN⟩;clear hce;have hce:=hbN;clear hbN))
 obtain⟨_,_,_,_,hre,_⟩:=hce.rcells
 have zz:=hre.bz t ht4
 have zg:=hre.fz (26+t)
 have hcz:=hce.setRun (R':={{(RS.evt {R with bg:=upd R.bg t (R.bg t+1)} t false ⟨0,az,8,0⟩ 0 0) with sl:=upd R.sl s (-2)} with bz:=upd R.bz t true}) (26+t) (.bool true) rfl (fun v k _=>runF_bz t ht4 true k)
 have HCZ:=Lib.hid hcz
 clear hcz hce hre CST
 go_wp2_with fail
 refine bodyPost_ret (results_none rfl _ _ _) rfl ?_
 refine⟨rfl,?_⟩
 refine(HCZ.out.less (bx':=bx) (fun x hx=>mcm _ (mcm _ hx))).monoL (fun fs h=>?_)
 have e:R.beg t ⟨0,(s:Nat),az,8,aw,av⟩={{(RS.evt {R with bg:=upd R.bg t (R.bg t+1)} t false ⟨0,az,8,0⟩ 0 0) with sl:=upd R.sl s (-2)} with bz:=upd R.bz t true}:=by
  unfold RS.beg RS.evt opB opA
  dsimp only
  rw[if_pos rfl,if_neg (by decide),if_pos rfl,upd_at,es]
  simp
 rw[e]
 exact h
set_option maxRecDepth 100000 in
set_option maxHeartbeats 8000000 in
theorem rbegin_flush {P:Hp} {Q:RP} {pr:Nat->List Ac} {R:RS} {S:HS} {w W:World} {FP:List Nat} {bx:List (Nat×TypeId×Array Value)} (h:Ctx P S w FP (RunRec P Q pr R) bx W) {t:Nat} (ht:t<P.nt) (h3:P.nt<=3) {a:Ac} (ha:a.Ok t) (hb:R.bg t<=40) (hl:R.ev.length<=5000) (hk:a.k=2) (hp:S.ph t=.none):
 Calls Tryz.prog 57 #[.pointer (some ⟨Q.p,0,none⟩),.int .i64 t,a.val] W fun e W'=>e=.returned (.tuple #[])/\Ctx P (S.phs t (phOf P.T .flush)) w FP (RunRec P Q pr (R.beg t a)) bx W':=by
 obtain⟨sn,_⟩:=ha.sn
 obtain⟨hs1,hs2⟩:=ha.s
 obtain⟨s,hs'⟩:∃s:Nat,a.s=s:=⟨a.s.toNat,sn.symm⟩
 have es:a.s.toNat=s:=by omega
 have hs16:(s:Int)<16:=by omega
 have ht4:t<4:=by omega
 have ht4':(t:Int)<4:=by omega
 obtain⟨ak,a_s,az,aal,aw,av⟩:=a
 dsimp only at hs' es hs1 hs2 sn hk
 subst hk
 subst hs'
 clear sn
 have FR:=fun R=>RunRec.framed P Q pr R
 have hc1:=h.push (FR R) #[.int .i64 2,.int .i64 (s:Nat),.int .i64 az,.int .i64 aal,.int .i64 aw,.int .i64 av] 50
 have hc2:=(hc1.setRun (R':={R with bg:=upd R.bg t (R.bg t+1)}) (18+t) (.int .i64 ((R.bg t:Int)+1)) rfl (fun v k _=>runF_bg t ht4 (R.bg t+1) k)).still (FR _) ((Only.refl [] _).drew)
 obtain⟨_,_,_,_,hrc,_⟩:=hc1.rcells
 have zb:=hrc.bg t ht4
 have zf:=hrc.fz (18+t)
 have hHW:W.heap.size<(W.alloc (.cells #[.int .i64 2,.int .i64 (s:Nat),.int .i64 az,.int .i64 aal,.int .i64 aw,.int .i64 av] 50)).heap.size:=by simp
 clear hrc
 have CST:=Lib.hid (fun (W1:World) (R1:RS) (bx':List (Nat×TypeId×Array Value)) (hh:Ctx P S w FP (RunRec P Q pr R1) bx' W1)=>hh.call (f:=73) (args:=#[.pointer (some ⟨P.h,0,none⟩),.int .i64 t,.agg #[.int .i64 2,.int .i64 0,.int .i64 0,.int .i64 0]]) (α:=Unit) (R:=fun _ e=>e=.returned (.int .i64 0)) (S':=fun _=>S.phs t (phOf P.T .flush)) (FR R1) (fun FPc hs=>(hStart_at hs ht hp .flush trivial).mono (fun e w' hh=>⟨(),hh⟩)))
 unfold Ac.val
 dsimp only
 go_enter Tryz.func57,Tryz.ntmps57
 go_wp2_with fail
 generalize W.alloc (.cells #[.int .i64 2,.int .i64 (s:Nat),.int .i64 az,.int .i64 aal,.int .i64 aw,.int .i64 av] 50)=W1 at *
 go_region
 have hsize:W1.heap.size=(World.drew (World.setCell W1 ⟨Q.p,18+t,none⟩ (.int .i64 ((R.bg t:Int)+1)))).heap.size:=by simp[World.setCell]
 rw[hsize] at hHW
 generalize World.drew (World.setCell W1 ⟨Q.p,18+t,none⟩ (.int .i64 ((R.bg t:Int)+1)))=Wa at *
 clear hc1 zb zf hsize
 have x0:=(bxCell hc2 (mcs ..) 0 rfl).1
 have x1:=(bxCell hc2 (mcs ..) 1 rfl).1
 have x2:=(bxCell hc2 (mcs ..) 2 rfl).1
 have x3:=(bxCell hc2 (mcs ..) 3 rfl).1
 have x4:=(bxCell hc2 (mcs ..) 4 rfl).1
 have x5:=(bxCell hc2 (mcs ..) 5 rfl).1
 have CO:=rop_at Wa ⟨2,(s:Nat),az,aal,aw,av⟩
 rw[show opA ⟨2,(s:Nat),az,aal,aw,av⟩=⟨2,0,0,0⟩ from rfl] at CO
 unfold Op4.val at CO
 dsimp only at CO
 have HC2:=Lib.hid hc2
 have HCO:=Lib.hid CO
 clear hc2 CO
 go_wp2_with fail
 refine Grew.use HCO.out (fun Wb hob=>?_)
 have hcb:=HC2.out.still (FR _) hob
 have hHb:W.heap.size<Wb.heap.size:=Nat.lt_of_lt_of_le hHW hob.size
 have hcc:=hcb.push (FR _) #[.int .i64 2,.int .i64 0,.int .i64 0,.int .i64 0] 64
 clear hcb HC2 HCO x0 x1 x2 x3 x4 x5 hHW
 have y0:=(bxCell hcc (mcm _ (mcs ..)) 0 rfl).1
 have y1:=(bxCell hcc (mcm _ (mcs ..)) 1 rfl).1
 go_wp2_with fail
 generalize hH2:Wb.heap.size=H2 at *
 generalize Wb.alloc (.cells #[.int .i64 2,.int .i64 0,.int .i64 0,.int .i64 0] 64)=Wc at *
 refine(revent_b hcc ht4 (by show upd R.bg t (R.bg t+1) t<=100;rw[upd_at];omega) (by show R.ev.length<=10000;omega) ⟨2,0,0,0⟩ 0 0).mono ?_
 rintro r Wd ⟨rfl,hcd⟩
 clear hcc y0 y1
 have y0:=(bxCell hcd (mcs ..) 0 rfl).1
 have y1:=(bxCell hcd (mcm _ (mcs ..)) 0 rfl).1
 have y2:=(bxCell hcd (mcm _ (mcs ..)) 1 rfl).1
 obtain⟨_,_,_,_,hrd,_⟩:=hcd.rcells
 have zs:=hrd.sl s (by omega)
 have zf:=hrd.fz (2+s)
 have HCD:=Lib.hid hcd
 clear hcd hrd
 go_wp2_with fail
 have hce:=HCD.out
 replace hce:=hce.still (FR _) ((Only.refl [] _).drew)
 clear y0 y1 y2 zs zf HCD
 go_region_held3 (fun U=>U.cell? ⟨Q.p,0,none⟩=some (.pointer (some ⟨P.h,0,none⟩))/\U.cell? ⟨H2,0,none⟩=some (.int .i64 2)/\U.cell? ⟨H2,1,none⟩=some (.int .i64 0)/\U.cell? ⟨H2,2,none⟩=some (.int .i64 0)/\U.cell? ⟨H2,3,none⟩=some (.int .i64 0))
  (exact⟨hce.rcells.elim (fun _ h=>h.elim (fun _ h=>h.elim (fun _ h=>h.2.1.c0))),(bxCell hce (mcs ..) 0 rfl).1,(bxCell hce (mcs ..) 1 rfl).1,(bxCell hce (mcs ..) 2 rfl).1,(bxCell hce (mcs ..) 3 rfl).1⟩)
  (first
   |(go_at_call 73;with_reducible refine Calls.mono (CST.out _ _ _ hce) ?_;rintro _ wM ⟨_,rfl,hbN⟩;clear hce;have hce:=hbN;clear hbN))
 obtain⟨_,_,_,_,hre,_⟩:=hce.rcells
 have zz:=hre.bz t ht4
 have zg:=hre.fz (26+t)
 have hcz:=hce.setRun (R':={(RS.evt {R with bg:=upd R.bg t (R.bg t+1)} t false ⟨2,0,0,0⟩ 0 0) with bz:=upd R.bz t true}) (26+t) (.bool true) rfl (fun v k _=>runF_bz t ht4 true k)
 have HCZ:=Lib.hid hcz
 clear hcz hce hre CST
 go_wp2_with fail
 refine bodyPost_ret (results_none rfl _ _ _) rfl ?_
 refine⟨rfl,?_⟩
 refine(HCZ.out.less (bx':=bx) (fun x hx=>mcm _ (mcm _ hx))).monoL (fun fs h=>?_)
 have e:R.beg t ⟨2,(s:Nat),az,aal,aw,av⟩={(RS.evt {R with bg:=upd R.bg t (R.bg t+1)} t false ⟨2,0,0,0⟩ 0 0) with bz:=upd R.bz t true}:=by
  unfold RS.beg RS.evt opB opA
  dsimp only
  rw[if_neg (by decide),if_neg (by decide),if_neg (by decide),if_neg (by decide),if_neg (by decide),if_pos rfl,upd_at]
  simp
 rw[e]
 exact h
end Go.Proofs.YtcidjimefnhacaaGreatDoor
