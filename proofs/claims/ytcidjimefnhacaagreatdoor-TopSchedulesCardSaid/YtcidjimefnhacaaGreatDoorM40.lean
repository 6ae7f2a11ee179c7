/- TopSchedules, a part of the proof: Rh, Ri, Rj, Rk, Rl. -/
import Derived.Test.YtcidjimefnhacaaGreatDoorM38
set_option linter.unusedVariables false
set_option linter.unusedSimpArgs false
namespace Go.Proofs.YtcidjimefnhacaaGreatDoor
open Go.RowKit
theorem rmade_at {P:Hp} {Q:RP} {pr:Nat->List Ac} {R:RS} {S:HS} {w W:World} {FP:List Nat} {bx:List (Nat×TypeId×Array Value)} (h:Ctx P S w FP (RunRec P Q pr R) bx W):Still Tryz.prog 25 #[.pointer (some ⟨Q.p,0,none⟩)] W (.bool true):=by
 obtain⟨v,A,c,e,hc,_⟩:=h.rcells
 have z0:=hc.c0
 clear h hc
 go_enter Tryz.func25,Tryz.ntmps25
 go_wp2_with fail
 go_ret
 exact⟨rfl,rfl⟩
theorem results_act {fn:Func} {t u:Tmp} (h:fn.results=#[.cell t 50,.tmp u]) {tmps:Array Value} {w:World} {b:Nat} {cs:Array Value} {x0 x1 x2 x3 x4 x5:Int} (hu:tmps.getD t undef=.pointer (some ⟨b,0,none⟩)) (hb:Blk w b 50 cs) (hcs:cs=#[.int .i64 x0,.int .i64 x1,.int .i64 x2,.int .i64 x3,.int .i64 x4,.int .i64 x5]):
 (results fn tmps).run Tryz.prog w=.ok (.tuple #[.agg #[.int .i64 x0,.int .i64 x1,.int .i64 x2,.int .i64 x3,.int .i64 x4,.int .i64 x5],tmps.getD u undef]) w:=by
 have hu':tmps[t]?.getD undef=.pointer (some ⟨b,0,none⟩):=by simpa using hu
 subst hcs
 have h0:=hb.cell_ 0 rfl
 have h1:=hb.cell_ 1 rfl
 have h2:=hb.cell_ 2 rfl
 have h3:=hb.cell_ 3 rfl
 have h4:=hb.cell_ 4 rfl
 have h5:=hb.cell_ 5 rfl
 simp[results,h,hu',go_sem,h0,h1,h2,h3,h4,h5]
theorem rnext_none {P:Hp} {Q:RP} {pr:Nat->List Ac} {R:RS} {S:HS} {w W:World} {FP:List Nat} {bx:List (Nat×TypeId×Array Value)} (h:Ctx P S w FP (RunRec P Q pr R) bx W) {t:Nat} (ht:t<P.nt) (h4:P.nt<=4) (hl:(pr t).length<=32) (ha:(pr t)[R.bg t]? =none):Grew Tryz.prog 27 #[.pointer (some ⟨Q.p,0,none⟩),.int .i64 t] W (.tuple #[.agg #[.int .i64 0,.int .i64 0,.int .i64 0,.int .i64 0,.int .i64 0,.int .i64 0],.bool false]):=by
 replace h:=h.push (RunRec.framed P Q pr R) #[.int .i64 0,.int .i64 0,.int .i64 0,.int .i64 0,.int .i64 0,.int .i64 0] 50
 obtain⟨v,A,c,e,hc,_,hcp⟩:=h.rcells
 obtain⟨A1,c1,p1,_,p2,p3⟩:=h.rprog ht
 have z1:=hc.c1
 have zb:=hc.bg t (by omega)
 have hlen:=List.getElem?_eq_none_iff.1 ha
 clear h hc ha p3
 generalize (pr t).length=n at *
 generalize R.bg t=k at *
 generalize P.nt=nt at *
 have d1:decide ((k:Int)<n)=false:=decide_eq_false (by omega)
 have d1':decide (k<n)=false:=decide_eq_false (by omega)
 have hon:=(Only.refl [] W).alloc (.cells #[.int .i64 0,.int .i64 0,.int .i64 0,.int .i64 0,.int .i64 0,.int .i64 0] 50)
 go_enter Tryz.func27,Tryz.ntmps27
 go_wp2_with fail
 refine bodyPost_ret (results_act rfl rfl (Blk.new W _ _) rfl) rfl ?_
 exact⟨rfl,hon⟩
theorem rnext_some {P:Hp} {Q:RP} {pr:Nat->List Ac} {R:RS} {S:HS} {w W:World} {FP:List Nat} {bx:List (Nat×TypeId×Array Value)} (h:Ctx P S w FP (RunRec P Q pr R) bx W) {t:Nat} (ht:t<P.nt) (h4:P.nt<=4) (hl:(pr t).length<=32) {a:Ac} (ha:(pr t)[R.bg t]? =some a):Grew Tryz.prog 27 #[.pointer (some ⟨Q.p,0,none⟩),.int .i64 t] W (.tuple #[a.val,.bool true]):=by
 replace h:=h.push (RunRec.framed P Q pr R) #[.int .i64 0,.int .i64 0,.int .i64 0,.int .i64 0,.int .i64 0,.int .i64 0] 50
 obtain⟨v,A,c,e,hc,_,hcp⟩:=h.rcells
 obtain⟨A1,c1,p1,_,p2,p3⟩:=h.rprog ht
 obtain⟨g,off,rfl,p4⟩:=p3 _ a ha
 have z1:=hc.c1
 have zb:=hc.bg t (by omega)
 have hlen:=(List.getElem?_eq_some_iff.1 ha).1
 have q0:=p4 0 _ rfl
 have q1:=p4 1 _ rfl
 have q2:=p4 2 _ rfl
 have q3:=p4 3 _ rfl
 have q4:=p4 4 _ rfl
 have q5:=p4 5 _ rfl
 clear h hc ha p3 p4
 generalize (pr t).length=n at *
 generalize R.bg t=k at *
 generalize P.nt=nt at *
 have d1:decide ((k:Int)<n)=true:=decide_eq_true (by omega)
 have d1':decide (k<n)=true:=decide_eq_true (by omega)
 have hon:=(Only.refl [] W).alloc (.cells #[.int .i64 a.k,.int .i64 a.s,.int .i64 a.z,.int .i64 a.al,.int .i64 a.w,.int .i64 a.v] 50)
 rw[Nat.add_zero] at q0
 go_enter Tryz.func27,Tryz.ntmps27
 go_wp2_with fail
 refine bodyPost_ret (results_act rfl rfl (Blk.new W _ _) rfl) rfl ?_
 exact⟨rfl,hon⟩
theorem rready_at {P:Hp} {Q:RP} {pr:Nat->List Ac} {R:RS} {S:HS} {w W:World} {FP:List Nat} {bx:List (Nat×TypeId×Array Value)} (h:Ctx P S w FP (RunRec P Q pr R) bx W) {t:Nat} (ht:t<3) {a:Ac} (ha:a.Ok t):Grew Tryz.prog 29 #[.pointer (some ⟨Q.p,0,none⟩),a.val] W (.bool (readyB R a)):=by
 obtain⟨sn,_⟩:=ha.sn
 obtain⟨hs1,hs2⟩:=ha.s
 have hc0:=h.push (RunRec.framed P Q pr R) #[.int .i64 a.k,.int .i64 a.s,.int .i64 a.z,.int .i64 a.al,.int .i64 a.w,.int .i64 a.v] 50
 obtain⟨v,A,c,e,hc,_,hcp⟩:=hc0.rcells
 have zs:=hc.sl a.s.toNat (by omega)
 have hon:=(Only.refl [] W).alloc (.cells #[.int .i64 a.k,.int .i64 a.s,.int .i64 a.z,.int .i64 a.al,.int .i64 a.w,.int .i64 a.v] 50)
 have hon2:=hon.drew
 obtain⟨s,hs⟩:∃s:Nat,a.s=s:=⟨a.s.toNat,sn.symm⟩
 have hs16:s<16:=by omega
 rw[show a.s.toNat=s by omega] at zs
 have HR:Hid (readyB R a=if a.k=2 then true else if a.k=0 then decide (R.sl s= -1) else decide (0<=R.sl s)):=by show _=_;unfold readyB;rw[show a.s.toNat=s by omega]
 rw[HR.out]
 clear h hc hc0 HR sn hs1 hs2
 unfold Ac.val
 rw[hs] at hon hon2 zs ⊢
 generalize R.sl s=x at *
 by_cases h2:a.k=2
 ·rw[if_pos h2]
  rw[h2] at hon ⊢
  go_enter Tryz.func29,Tryz.ntmps29
  go_wp2_with fail
  go_ret
  exact⟨rfl,hon⟩
 ·rw[if_neg h2]
  have e2:(a.k==2)=false:=beq_eq_false_iff_ne.2 h2
  by_cases h0:a.k=0
  ·rw[if_pos h0]
   rw[h0] at hon2 zs ⊢
   clear h2 e2
   go_enter Tryz.func29,Tryz.ntmps29
   go_wp2_with fail
   go_region
   go_wp2_with fail
   go_ret
   exact⟨rfl,hon2⟩
  ·rw[if_neg h0]
   have e0:(a.k==0)=false:=beq_eq_false_iff_ne.2 h0
   go_enter Tryz.func29,Tryz.ntmps29
   go_wp2_with fail
   go_region
   go_wp2_with fail
   go_ret
   exact⟨rfl,hon2⟩
theorem rop_at (W:World) (a:Ac):Grew Tryz.prog 70 #[a.val] W (opA a).val:=by
 have hon:=fun cs=>((Only.refl [] W).alloc (.cells #[.int .i64 a.k,.int .i64 a.s,.int .i64 a.z,.int .i64 a.al,.int .i64 a.w,.int .i64 a.v] 50)).alloc (.cells cs 64)
 unfold opA Ac.val Op4.val
 by_cases h0:a.k=0
 ·rw[if_pos h0]
  rw[h0] at hon ⊢
  go_enter Tryz.func70,Tryz.ntmps70
  go_wp2_with fail
  refine bodyPost_ret (by simp[results,Tryz.results70,go_sem];rfl) rfl ?_
  exact⟨rfl,hon _⟩
 ·rw[if_neg h0]
  have e0:(a.k==0)=false:=beq_eq_false_iff_ne.2 h0
  by_cases h1:a.k=1
  ·rw[if_pos h1]
   rw[h1] at hon ⊢
   clear h0 e0
   go_enter Tryz.func70,Tryz.ntmps70
   go_wp2_with fail
   refine bodyPost_ret (by simp[results,Tryz.results70,go_sem];rfl) rfl ?_
   exact⟨rfl,hon _⟩
  ·rw[if_neg h1]
   have e1:(a.k==1)=false:=beq_eq_false_iff_ne.2 h1
   by_cases h2:a.k=2
   ·rw[if_pos h2]
    rw[h2] at hon ⊢
    clear h0 e0 h1 e1
    go_enter Tryz.func70,Tryz.ntmps70
    go_wp2_with fail
    refine bodyPost_ret (by simp[results,Tryz.results70,go_sem];rfl) rfl ?_
    exact⟨rfl,hon _⟩
   ·rw[if_neg h2]
    have e2:(a.k==2)=false:=beq_eq_false_iff_ne.2 h2
    go_enter Tryz.func70,Tryz.ntmps70
    go_wp2_with fail
    refine bodyPost_ret (by simp[results,Tryz.results70,go_sem];rfl) rfl ?_
    exact⟨rfl,hon _⟩
theorem info_ev:(Tryz.prog.info? 68).map (fun i=>(i.zero,i.size,i.bytes))=some (some (.agg #[.int .i64 0,.int .i64 0,.bool false,.int .i64 0,.int .i64 0,.int .i64 0,.int .i64 0,.int .i64 0,.int .i64 0]),9,72):=by kernel_rfl
def RS.evt (R:RS) (t:Nat) (e:Bool) (o:Op4) (ra re:Int):RS:={R with ov:=if e then upd R.ov t (IntKind.i64.wrap (R.ov t+1)) else R.ov,ev:=R.ev++[⟨t,(R.bg t:Int)-1,e,o,ra,re⟩]}
theorem cells_new9 (w:World) (t:TypeId) (x0 x1 x2 x3 x4 x5 x6 x7 x8:Value):∀j u,[x0,x1,x2,x3,x4,x5,x6,x7,x8][j]? =some u->(w.alloc (.cells #[x0,x1,x2,x3,x4,x5,x6,x7,x8] t)).cell? ((⟨w.heap.size,0,none⟩:Addr).add j)=some u:=by
 intro j u hj
 rw[Addr.add_lit,Nat.zero_add]
 exact(Blk.new w t _).cell_ j (by simpa using hj)
theorem revent_key {P:Hp} {Q:RP} {pr:Nat->List Ac} {R:RS} {S:HS} {w:World} {FP:List Nat} {bx:List (Nat×TypeId×Array Value)} {H t:Nat} (ht:t<4) (e:Bool) (o:Op4) (ra re:Int):∀(R':RS) (W2:World),Ctx P S w FP (RunRec P Q pr R') ((H+1,66,#[.int .i64 ra,.int .i64 re])::(H,64,#[.int .i64 o.k,.int .i64 o.s,.int .i64 o.al,.int .i64 o.ad])::bx) W2->R'.bg=R.bg->R'.ev=R.ev->∃v A c,v=.slice A R.ev.length c/\∀W1,Only [] W2 W1->(W1.cell? ⟨Q.p,30,none⟩=some v/\W1.cell? ⟨Q.p,18+t,none⟩=some (.int .i64 (R.bg t))/\
 W1.cell? ⟨H,0,none⟩=some (.int .i64 o.k)/\W1.cell? ⟨H,1,none⟩=some (.int .i64 o.s)/\W1.cell? ⟨H,2,none⟩=some (.int .i64 o.al)/\W1.cell? ⟨H,3,none⟩=some (.int .i64 o.ad)/\W1.cell? ⟨H+1,0,none⟩=some (.int .i64 ra)/\W1.cell? ⟨H+1,1,none⟩=some (.int .i64 re))/\
 W1.ownsRow 0 68 9 v R.ev.length (evCells R.ev)/\
 ∀v' W',W'.ownsRow 0 68 9 v' (R.ev.length+1) (evCells R.ev++[.int .i64 t,.int .i64 ((R.bg t:Int)-1),.bool e,.int .i64 o.k,.int .i64 o.s,.int .i64 o.al,.int .i64 o.ad,.int .i64 ra,.int .i64 re])->W1.grownBy W' v.ownBlock->(v'.ownBlock=v.ownBlock\/v'.ownBlock=some W1.heap.size)->
  W'.cell? ⟨Q.p,30,none⟩=some v/\W'.frozen? ⟨Q.p,30,none⟩=false/\Ctx P S w FP (RunRec P Q pr {R' with ev:=R.ev++[⟨t,(R.bg t:Int)-1,e,o,ra,re⟩]}) bx (W'.setCell ⟨Q.p,30,none⟩ v'):=by
 intro R' W2 hh hbg hev
 obtain⟨v,A,c,e1,hc,_⟩:=hh.rcells
 rw[hev] at e1
 refine⟨v,A,c,e1,fun W1 ho=>?_⟩
 have h1:=hh.still (RunRec.framed P Q pr R') ho
 have b1:=h1.box (x:=(H+1,66,#[.int .i64 ra,.int .i64 re])) (by simp)
 have b2:=h1.box (x:=(H,64,#[.int .i64 o.k,.int .i64 o.s,.int .i64 o.al,.int .i64 o.ad])) (by simp)
 obtain⟨v1,A1,c1,e2,hc1,_⟩:=h1.rcells
 have hp30:=World.block_lt_of_cell? _ _ hc.ev
 have hv:v1=v:=Option.some.inj (hc1.ev.symm.trans ((ho.cell (p:=⟨Q.p,30,none⟩) hp30 (by simp)).trans hc.ev))
 subst hv
 obtain⟨g1,g2⟩:=hh.grewEv hc.ev ho ⟨t,(R.bg t:Int)-1,e,o,ra,re⟩
 rw[hev] at g1 g2
 refine⟨⟨hc1.ev,by rw[<-hbg];exact hc1.bg t ht,b2.cell_ 0 rfl,b2.cell_ 1 rfl,b2.cell_ 2 rfl,b2.cell_ 3 rfl,b1.cell_ 0 rfl,b1.cell_ 1 rfl⟩,g1,fun v' W' q1 q2 q3=>?_⟩
 obtain⟨q4,q5,q6⟩:=g2 v' W' q1 q2 q3
 exact⟨q4,q5,q6.less (fun x hx=>mcm _ (mcm _ hx))⟩
set_option maxHeartbeats 4000000 in
theorem revent_b {P:Hp} {Q:RP} {pr:Nat->List Ac} {R:RS} {S:HS} {w W:World} {FP:List Nat} {bx:List (Nat×TypeId×Array Value)} (h:Ctx P S w FP (RunRec P Q pr R) bx W) {t:Nat} (ht:t<4) (hb:R.bg t<=100) (hl:R.ev.length<=10000) (o:Op4) (ra re:Int):
 Calls Tryz.prog 72 #[.pointer (some ⟨Q.p,0,none⟩),.int .i64 t,.bool false,o.val,.agg #[.int .i64 ra,.int .i64 re]] W fun r W'=>r=.returned (.tuple #[])/\Ctx P S w FP (RunRec P Q pr (R.evt t false o ra re)) bx W':=by
 have hc1:=h.push (RunRec.framed P Q pr R) #[.int .i64 o.k,.int .i64 o.s,.int .i64 o.al,.int .i64 o.ad] 64
 have hc2:=hc1.push (RunRec.framed P Q pr R) #[.int .i64 ra,.int .i64 re] 66
 obtain⟨i0,hi,hz0,hz1,hz2⟩:=info_parts info_ev
 have ht4:(t:Int)<4:=by omega
 have hw1:IntKind.i64.wrap ((R.bg t:Int)-1)=(R.bg t:Int)-1:=IntWalk.i64_in _ (by omega)
 have hsz:((W.alloc (.cells #[.int .i64 o.k,.int .i64 o.s,.int .i64 o.al,.int .i64 o.ad] 64)).heap.size)=W.heap.size+1:=by simp
 rw[hsz] at hc2
 unfold Op4.val
 obtain⟨v,A,c,rfl,HK⟩:=revent_key (R:=R) ht false o ra re R _ hc2 rfl rfl
 have HKK:=Lib.hid HK
 clear h hc1 hc2 HK
 generalize R.ev.length=n at *
 generalize hoc:evCells R.ev=olds at *
 generalize hbt:R.bg t=k at *
 have HBT:=Lib.hid hbt
 clear hbt
 go_enter Tryz.func72,Tryz.ntmps72
 go_wp2_with fail
 generalize (W.alloc (.cells #[.int .i64 o.k,.int .i64 o.s,.int .i64 o.al,.int .i64 o.ad] 64)).alloc (.cells #[.int .i64 ra,.int .i64 re] 66)=W2 at *
 obtain⟨⟨z30,zb,y0,y1,y2,y3,x0,x1⟩,_,_⟩:=HKK.out W2 (Only.refl _ _)
 obtain⟨⟨a30,ab,a0,a1,a2,a3,a4,a5⟩,_,_⟩:=HKK.out (W2.alloc (.cells #[.int .i64 t,.int .i64 ((k:Int)-1),.bool false,.int .i64 o.k,.int .i64 o.s,.int .i64 o.al,.int .i64 o.ad,.int .i64 ra,.int .i64 re] 68)) ((Only.refl [] W2).alloc _)
 have HW2:=Lib.hid (HKK.out (W2.drew.alloc (.cells #[.int .i64 t,.int .i64 ((k:Int)-1),.bool false,.int .i64 o.k,.int .i64 o.s,.int .i64 o.al,.int .i64 o.ad,.int .i64 ra,.int .i64 re] 68)) ((Only.refl [] W2).drew.alloc _))
 go_region_law (first
  |(go_loud (refine step_appO rfl (.tmp 27) (.tmp 41) 0 61 68 i0 _ 9 72 Tryz.underlying61 hi hz0 hz1 hz2 rfl (by decide) rfl (B:=⟨W2.heap.size,0,none⟩) (m:=1) (cB:=1) (news:=[.int .i64 t,.int .i64 ((k:Int)-1),.bool false,.int .i64 o.k,.int .i64 o.s,.int .i64 o.al,.int .i64 o.ad,.int .i64 ra,.int .i64 re]) rfl rfl HW2.out.2.1 rfl (cells_new9 W2.drew _ _ _ _ _ _ _ _ _ _) (by simp[Value.oneCell']) (by unfold maxLen;omega) (by omega) (Nat.zero_le _) ?_);intro v' w' hown hg hat;obtain⟨A',c',rfl,_⟩:=own_slice hown;obtain⟨u1,u2,u3⟩:=HW2.out.2.2 _ _ hown hg hat))
 all_goals go_wp2
 all_goals go_end0
 all_goals exact⟨rfl,by unfold RS.evt;rw[HBT.out];exact u3⟩
set_option maxHeartbeats 4000000 in
theorem revent_e {P:Hp} {Q:RP} {pr:Nat->List Ac} {R:RS} {S:HS} {w W:World} {FP:List Nat} {bx:List (Nat×TypeId×Array Value)} (h:Ctx P S w FP (RunRec P Q pr R) bx W) {t:Nat} (ht:t<4) (hb:R.bg t<=100) (hl:R.ev.length<=10000) (o:Op4) (ra re:Int):
 Calls Tryz.prog 72 #[.pointer (some ⟨Q.p,0,none⟩),.int .i64 t,.bool true,o.val,.agg #[.int .i64 ra,.int .i64 re]] W fun r W'=>r=.returned (.tuple #[])/\Ctx P S w FP (RunRec P Q pr (R.evt t true o ra re)) bx W':=by
 have hc1:=h.push (RunRec.framed P Q pr R) #[.int .i64 o.k,.int .i64 o.s,.int .i64 o.al,.int .i64 o.ad] 64
 have hc2:=hc1.push (RunRec.framed P Q pr R) #[.int .i64 ra,.int .i64 re] 66
 obtain⟨i0,hi,hz0,hz1,hz2⟩:=info_parts info_ev
 have ht4:(t:Int)<4:=by omega
 have hw1:IntKind.i64.wrap ((R.bg t:Int)-1)=(R.bg t:Int)-1:=IntWalk.i64_in _ (by omega)
 have hsz:((W.alloc (.cells #[.int .i64 o.k,.int .i64 o.s,.int .i64 o.al,.int .i64 o.ad] 64)).heap.size)=W.heap.size+1:=by simp
 rw[hsz] at hc2
 unfold Op4.val
 have hcS:=(hc2.setRun (R':={R with ov:=upd R.ov t (IntKind.i64.wrap (R.ov t+1))}) (22+t) (.int .i64 (IntKind.i64.wrap (R.ov t+1))) rfl (fun v k _=>runF_ov t ht _ k)).still (RunRec.framed P Q pr _) ((Only.refl [] _).drew)
 obtain⟨_,_,_,_,hrc,_⟩:=hc2.rcells
 have zo:=hrc.ov t ht
 have zf:=hrc.fz (22+t)
 obtain⟨v,A,c,rfl,HK⟩:=revent_key (R:=R) ht true o ra re {R with ov:=upd R.ov t (IntKind.i64.wrap (R.ov t+1))} _ hcS rfl rfl
 have HKK:=Lib.hid HK
 clear h hc1 hc2 HK hcS hrc
 generalize R.ev.length=n at *
 generalize hoc:evCells R.ev=olds at *
 generalize hbt:R.bg t=k at *
 have HBT:=Lib.hid hbt
 clear hbt
 obtain⟨y,hy⟩:∃y,IntKind.i64.wrap (R.ov t+1)=y:=⟨_,rfl⟩
 have HY:=Lib.hid hy
 have hy2:wrap64 (R.ov t+1)=y:=(IntWalk.i64_left _).symm.trans hy
 rw[hy] at HKK
 generalize R.ov t=ov at zo hy hy2
 go_enter Tryz.func72,Tryz.ntmps72
 go_wp2_with fail
 generalize (W.alloc (.cells #[.int .i64 o.k,.int .i64 o.s,.int .i64 o.al,.int .i64 o.ad] 64)).alloc (.cells #[.int .i64 ra,.int .i64 re] 66)=W2 at *
 go_region
 go_wp2_with fail
 generalize World.drew (World.setCell W2 ⟨Q.p,22+t,none⟩ (.int .i64 y))=W3 at *
 obtain⟨⟨z30,zb,y0,y1,y2,y3,x0,x1⟩,_,_⟩:=HKK.out W3 (Only.refl _ _)
 obtain⟨⟨a30,ab,a0,a1,a2,a3,a4,a5⟩,_,_⟩:=HKK.out (W3.alloc (.cells #[.int .i64 t,.int .i64 ((k:Int)-1),.bool true,.int .i64 o.k,.int .i64 o.s,.int .i64 o.al,.int .i64 o.ad,.int .i64 ra,.int .i64 re] 68)) ((Only.refl [] W3).alloc _)
 have HW3:=Lib.hid (HKK.out (W3.drew.alloc (.cells #[.int .i64 t,.int .i64 ((k:Int)-1),.bool true,.int .i64 o.k,.int .i64 o.s,.int .i64 o.al,.int .i64 o.ad,.int .i64 ra,.int .i64 re] 68)) ((Only.refl [] W3).drew.alloc _))
 go_region_law (first
  |(go_loud (refine step_appO rfl (.tmp 27) (.tmp 41) 0 61 68 i0 _ 9 72 Tryz.underlying61 hi hz0 hz1 hz2 rfl (by decide) rfl (B:=⟨W3.heap.size,0,none⟩) (m:=1) (cB:=1) (news:=[.int .i64 t,.int .i64 ((k:Int)-1),.bool true,.int .i64 o.k,.int .i64 o.s,.int .i64 o.al,.int .i64 o.ad,.int .i64 ra,.int .i64 re]) rfl rfl HW3.out.2.1 rfl (cells_new9 W3.drew _ _ _ _ _ _ _ _ _ _) (by simp[Value.oneCell']) (by unfold maxLen;omega) (by omega) (Nat.zero_le _) ?_);intro v' w' hown hg hat;obtain⟨A',c',rfl,_⟩:=own_slice hown;obtain⟨u1,u2,u3⟩:=HW3.out.2.2 _ _ hown hg hat))
 all_goals go_wp2
 all_goals go_end0
 all_goals exact⟨rfl,by unfold RS.evt;rw[HBT.out];rw[if_pos rfl,HY.out];exact u3⟩
theorem Ctx.setBoxL {P:Hp} {Sc:HS} {w W:World} {FP:List Nat} {Ls:World->List Nat->Prop} {bx:List (Nat×TypeId×Array Value)} (F:Framed Ls) {b:Nat} {t:TypeId} {cs:Array Value} (h:Ctx P Sc w FP Ls ((b,t,cs)::bx) W) (hnb:∀x∈bx,x.1≠b) (hnw:w.heap.size<=b) (i:Nat) (u:Value):Ctx P Sc w FP Ls ((b,t,cs.setIfInBounds i u)::bx) (W.setCell ⟨b,i,none⟩ u):=by
 obtain⟨h0,h1,⟨FPc,fs,h2,h3,h4,h5,h6⟩,h7⟩:=h
 have ho:Only [b] W (W.setCell ⟨b,i,none⟩ u):=(Only.refl [b] W).setCell (p:=⟨b,i,none⟩) (.inl (by simp)) _
 obtain⟨hb,hbf⟩:=h6 (b,t,cs) (by simp)
 have h3b:3<=b:=Nat.le_trans h0.2 hnw
 refine⟨h0,h1.setCell (p:=⟨b,i,none⟩) (.inr hnw) _,⟨FPc,fs,h2.only ho (fun x hx e=>?_) (by simpa using h3b),F.only h3 ho (fun x hx e=>?_),h4,h5,fun x hx=>?_⟩,fun x hx=>?_⟩
 ·simp at e
  subst e
  exact hb hx
 ·simp at e
  subst e
  exact hbf hx
 ·rcases List.mem_cons.1 hx with rfl|hx
  ·exact⟨hb,hbf⟩
  ·exact h6 x (mcm _ hx)
 ·rcases List.mem_cons.1 hx with rfl|hx
  ·exact(h7 (b,t,cs) (by simp)).set_ i u
  ·exact(h7 x (mcm _ hx)).only ho (by simpa using hnb x hx)
theorem Ctx.resL {P:Hp} {Sc:HS} {w W:World} {FP:List Nat} {Ls:World->List Nat->Prop} {bx:List (Nat×TypeId×Array Value)} (F:Framed Ls) (h:Ctx P Sc w FP Ls bx W) {b:Nat} (hb:(b,66,#[.int .i64 0,.int .i64 0])∈bx) (h1:w.heap.size<=b) (bx':List (Nat×TypeId×Array Value)) (hbx:∀x∈bx',x∈bx/\x.1≠b) (x y:Int):
 Ctx P Sc w FP Ls ((b,66,#[.int .i64 x,.int .i64 y])::bx') ((W.setCell ⟨b,0,none⟩ (.int .i64 x)).setCell ⟨b,1,none⟩ (.int .i64 y)):=
 ((h.less (bx':=(b,66,#[.int .i64 0,.int .i64 0])::bx') (fun z hz=>(List.mem_cons.1 hz).elim (fun e=>e▸hb) (fun hz=>(hbx z hz).1))).setBoxL F (fun z hz=>(hbx z hz).2) h1 0 (.int .i64 x)).setBoxL F (fun z hz=>(hbx z hz).2) h1 1 (.int .i64 y)
theorem results_r1 {fn:Func} {u:Tmp} (h:fn.results=#[.cell u 66]) {tmps:Array Value} {w:World} {b:Nat} {x y:Int} (hu:tmps.getD u undef=.pointer (some ⟨b,0,none⟩)) (h0:w.cell? ⟨b,0,none⟩=some (.int .i64 x)) (h1:w.cell? ⟨b,1,none⟩=some (.int .i64 y)):
 (results fn tmps).run Tryz.prog w=.ok (.agg #[.int .i64 x,.int .i64 y]) w:=by
 have hu':tmps[u]?.getD undef=.pointer (some ⟨b,0,none⟩):=by simpa using hu
 simp[results,h,hu',go_sem,h0,h1]
def SlWd (S:HS) (R:RS) (a:Ac):Prop:=R.sl a.s.toNat=0\/(0<R.sl a.s.toNat/\∃b,S.lv (R.sl a.s.toNat)=some b/\0<=b.size/\R.sl a.s.toNat+b.size<=65536)
set_option maxHeartbeats 4000000 in
theorem rword_at {P:Hp} {Q:RP} {pr:Nat->List Ac} {R:RS} {S:HS} {w W:World} {FP:List Nat} {bx:List (Nat×TypeId×Array Value)} (h:Ctx P S w FP (RunRec P Q pr R) bx W) {t:Nat} (ht:t<3) {a:Ac} (ha:a.Ok t) (hs:SlWd S R a):
 Calls Tryz.prog 74 #[.pointer (some ⟨Q.p,0,none⟩),a.val] W fun e W'=>e=.returned (.agg #[.int .i64 (wordR S R a).1,.int .i64 (wordR S R a).2])/\Ctx P {S with sp:=wordS S R a} w FP (RunRec P Q pr R) bx W':=by
 obtain⟨sn,_⟩:=ha.sn
 obtain⟨hs1,hs2⟩:=ha.s
 obtain⟨hw0,hw2⟩:=ha.w
 obtain⟨hv0,hv1⟩:=ha.v
 obtain⟨s,hs'⟩:∃s:Nat,a.s=s:=⟨a.s.toNat,sn.symm⟩
 have es:a.s.toNat=s:=by omega
 have hs16:(s:Int)<16:=by omega
 obtain⟨ak,a_s,az,aal,aw,av⟩:=a
 dsimp only at hs' es hw0 hw2 hv0 hv1 hs1 hs2 sn
 subst hs'
 clear ha sn
 have FR:=RunRec.framed P Q pr R
 have hsz:((W.alloc (.cells #[.int .i64 ak,.int .i64 (s:Nat),.int .i64 az,.int .i64 aal,.int .i64 aw,.int .i64 av] 50)).heap.size)=W.heap.size+1:=by simp
 have hWw:w.heap.size<=W.heap.size+1:=by have:=h.only.size;omega
 have hbl:∀x∈bx,x.1≠W.heap.size+1:=fun x hx e=>by have:=(h.box hx).lt;omega
 have hc2:=(h.push FR #[.int .i64 ak,.int .i64 (s:Nat),.int .i64 az,.int .i64 aal,.int .i64 aw,.int .i64 av] 50).push FR #[.int .i64 0,.int .i64 0] 66
 rw[hsz] at hc2
 have HRES:=Lib.hid (fun (Sc:HS) (W1:World) (hh:Ctx P Sc w FP (RunRec P Q pr R) ((W.heap.size+1,66,#[.int .i64 0,.int .i64 0])::(W.heap.size,50,#[.int .i64 ak,.int .i64 (s:Nat),.int .i64 az,.int .i64 aal,.int .i64 aw,.int .i64 av])::bx) W1) (x y:Int)=>hh.resL FR (mcs ..) hWw ((W.heap.size,50,#[.int .i64 ak,.int .i64 (s:Nat),.int .i64 az,.int .i64 aal,.int .i64 aw,.int .i64 av])::bx) (fun z hz=>⟨mcm _ hz,(List.mem_cons.1 hz).elim (fun e=>by rw[e];exact Nat.ne_of_lt (Nat.lt_succ_self _)) (hbl z)⟩) x y)
 have HCL:=Lib.hid (fun (Sc:HS) (W1:World) (hh:Ctx P Sc w FP (RunRec P Q pr R) ((W.heap.size+1,66,#[.int .i64 0,.int .i64 0])::(W.heap.size,50,#[.int .i64 ak,.int .i64 (s:Nat),.int .i64 az,.int .i64 aal,.int .i64 aw,.int .i64 av])::bx) W1)=>(show W1.cell? ⟨Q.p,0,none⟩=some (.pointer (some ⟨P.h,0,none⟩))/\W1.cell? ⟨Q.p,2+s,none⟩=some (.int .i64 (R.sl s))/\W1.cell? ⟨W.heap.size,0,none⟩=some (.int .i64 ak)/\W1.cell? ⟨W.heap.size,1,none⟩=some (.int .i64 (s:Nat))/\W1.cell? ⟨W.heap.size,4,none⟩=some (.int .i64 aw)/\W1.cell? ⟨W.heap.size,5,none⟩=some (.int .i64 av)/\
  (W1.cell? ⟨W.heap.size+1,0,none⟩=some (.int .i64 0)/\W1.frozen? ⟨W.heap.size+1,0,none⟩=false)/\(W1.cell? ⟨W.heap.size+1,1,none⟩=some (.int .i64 0)/\W1.frozen? ⟨W.heap.size+1,1,none⟩=false) from by
  obtain⟨_,_,_,_,hrc,_⟩:=hh.rcells
  have hm1:=mcm (W.heap.size+1,66,#[Value.int .i64 0,.int .i64 0]) (mcs (a:=(W.heap.size,50,#[Value.int .i64 ak,.int .i64 (s:Nat),.int .i64 az,.int .i64 aal,.int .i64 aw,.int .i64 av])) (l:=bx))
  exact⟨hrc.c0,hrc.sl _ (by omega),(bxCell hh hm1 0 rfl).1,(bxCell hh hm1 1 rfl).1,(bxCell hh hm1 4 rfl).1,(bxCell hh hm1 5 rfl).1,bxCell hh (mcs ..) 0 rfl,bxCell hh (mcs ..) 1 rfl⟩))
 obtain⟨c0,c1,c2,c3,c4,c5,⟨c6,c7⟩,⟨c8,c9⟩⟩:=HCL.out _ _ hc2
 have HX:Hid ((R.sl s=0/\wordR S R ⟨ak,(s:Nat),az,aal,aw,av⟩=(0,4)/\wordS S R ⟨ak,(s:Nat),az,aal,aw,av⟩=S.sp)\/(0<R.sl s/\∃b,S.lv (R.sl s)=some b/\(0<=b.size/\R.sl s+b.size<=65536)/\(wordR S R ⟨ak,(s:Nat),az,aal,aw,av⟩=if b.size<aw*8+8 then(0,7) else if ak=3 then(0,S.sp.acc (R.sl s+aw*8) 1) else(if S.sp.acc (R.sl s+aw*8) 1=0 then S.sp.h ((R.sl s+aw*8)/8) else 0,S.sp.acc (R.sl s+aw*8) 1))/\
  (wordS S R ⟨ak,(s:Nat),az,aal,aw,av⟩=if b.size<aw*8+8 then S.sp else if ak=3 then S.sp.writeM (R.sl s+aw*8) av else S.sp))):=by
  show _\/_
  unfold SlWd at hs
  unfold wordR wordS
  dsimp only at hs ⊢
  rw[es] at hs ⊢
  rcases hs with h0|⟨h0,b,h1,h2⟩
  ·left;rw[if_pos h0,if_pos h0];exact⟨h0,rfl,rfl⟩
  ·right
   refine⟨h0,b,h1,h2,?_,?_⟩
   ·rw[if_neg (by omega),h1]
   ·rw[if_neg (by omega),h1]
 have HC2:=Lib.hid hc2
 unfold Ac.val
 dsimp only
 clear h hc2 hs hs1 hs2 hbl es
 generalize hx:R.sl s=x at *
 rcases HX.out with ⟨h0,h1,h2⟩|⟨h0,b,h1,h2,h3,h4⟩
 ·subst h0
  rw[h1,h2]
  have HBR:=Lib.hid (HRES.out _ _ (HC2.out.still FR ((Only.refl [] _).drew)) 0 4)
  clear HX h1 h2 HRES HCL
  go_enter Tryz.func74,Tryz.ntmps74
  go_wp2_with fail
  generalize (W.alloc (.cells #[.int .i64 ak,.int .i64 (s:Nat),.int .i64 az,.int .i64 aal,.int .i64 aw,.int .i64 av] 50)).alloc (.cells #[.int .i64 0,.int .i64 0] 66)=W2 at *
  go_region
  go_wp2_with fail
  refine bodyPost_ret (results_r1 rfl rfl (bxCell HBR.out (mcs ..) 0 rfl).1 (bxCell HBR.out (mcs ..) 1 rfl).1) rfl ?_
  exact⟨rfl,HBR.out.less (fun x hx=>mcm _ (mcm _ hx))⟩
 ·have CU:=Lib.hid (fun (W1:World) (bx':List (Nat×TypeId×Array Value)) (hh:Ctx P S w FP (RunRec P Q pr R) bx' W1)=>(hh.sys_.elim (fun FPd hs=>husable_at hs (by unfold I64;omega) h1):Grew Tryz.prog 16 #[.pointer (some ⟨P.h,0,none⟩),.int .i64 x] W1 (.tuple #[.int .i64 b.size,.int .i64 0])))
  have CR:=Lib.hid (fun (W1:World) (bx':List (Nat×TypeId×Array Value)) (hh:Ctx P S w FP (RunRec P Q pr R) bx' W1)=>hh.sys_.elim (fun FPd hs=>hread_at hs (x+aw*8) (by unfold I64;omega)))
  have CW:=Lib.hid (fun (W1:World) (bx':List (Nat×TypeId×Array Value)) (hh:Ctx P S w FP (RunRec P Q pr R) bx' W1)=>hh.call (f:=80) (args:=#[.pointer (some ⟨P.h,0,none⟩),.int .i64 (x+aw*8),.int .i64 av]) (α:=Unit) (R:=fun _ e=>e=.returned (.int .i64 (S.sp.acc (x+aw*8) 1))) (S':=fun _=>{S with sp:=S.sp.writeM (x+aw*8) av}) FR (fun FPc hs=>(hwrite_at hs (x+aw*8) av (by unfold I64;omega) (by unfold I64;omega)).mono (fun e w' hh=>⟨(),hh⟩)))
  have HB2:=Lib.hid h2
  have w1:IntKind.i64.wrap (aw*8)=aw*8:=IntWalk.i64_in _ (by omega)
  have w2:IntKind.i64.wrap (aw*8+8)=aw*8+8:=IntWalk.i64_in _ (by omega)
  have w3:IntKind.i64.wrap (x+aw*8)=x+aw*8:=IntWalk.i64_in _ (by omega)
  have e0:(x==0)=false:=beq_eq_false_iff_ne.2 (by omega)
  generalize S.sp.acc (x+aw*8) 1=acc at *
  generalize S.sp.writeM (x+aw*8) av=spW at *
  generalize (if acc=0 then S.sp.h ((x+aw*8)/8) else 0)=rd at *
  generalize b.size=z at *
  have hrest:=HC2.out.still FR ((Only.refl [] _).drew)
  clear HX h1 h2
  by_cases cz:z<aw*8+8
  ·have d1:decide (z<aw*8+8)=true:=decide_eq_true cz
   rw[h3,h4,if_pos cz,if_pos cz]
   clear h3 h4 CR CW
   go_enter Tryz.func74,Tryz.ntmps74
   go_wp2_with fail
   generalize (W.alloc (.cells #[.int .i64 ak,.int .i64 (s:Nat),.int .i64 az,.int .i64 aal,.int .i64 aw,.int .i64 av] 50)).alloc (.cells #[.int .i64 0,.int .i64 0] 66)=W2 at *
   go_region
   go_wp2_with fail
   refine Grew.use (CU.out _ _ hrest) (fun wN hoN=>?_)
   have hN:=hrest.still FR hoN
   have HBR:=Lib.hid (HRES.out _ _ hN 0 7)
   obtain⟨g0,g1,g2,g3,g4,g5,⟨g6,g7⟩,⟨g8,g9⟩⟩:=HCL.out _ _ hN
   clear hN hrest CU HRES HCL
   go_wp2_with fail
   refine bodyPost_ret (results_r1 rfl rfl (bxCell HBR.out (mcs ..) 0 rfl).1 (bxCell HBR.out (mcs ..) 1 rfl).1) rfl ?_
   exact⟨rfl,HBR.out.less (fun x hx=>mcm _ (mcm _ hx))⟩
  ·have d1:decide (z<aw*8+8)=false:=decide_eq_false cz
   rw[h3,h4,if_neg cz,if_neg cz]
   clear h3 h4
   by_cases k3:ak=3
   ·rw[if_pos k3,if_pos k3]
    subst k3
    clear CR
    go_enter Tryz.func74,Tryz.ntmps74
    go_wp2_with fail
    generalize (W.alloc (.cells #[.int .i64 3,.int .i64 (s:Nat),.int .i64 az,.int .i64 aal,.int .i64 aw,.int .i64 av] 50)).alloc (.cells #[.int .i64 0,.int .i64 0] 66)=W2 at *
    go_region
    go_wp2_with fail
    refine Grew.use (CU.out _ _ hrest) (fun wN hoN=>?_)
    have hN:=hrest.still FR hoN
    obtain⟨g0,g1,g2,g3,g4,g5,⟨g6,g7⟩,⟨g8,g9⟩⟩:=HCL.out _ _ hN
    have hbd:=hN.still FR ((Only.refl [] _).drew)
    clear hN hrest CU
    go_wp2_with fail
    go_region_held3 (fun U=>U.cell? ⟨Q.p,0,none⟩=some (.pointer (some ⟨P.h,0,none⟩))/\U.cell? ⟨W.heap.size,5,none⟩=some (.int .i64 av))
     (first|exact⟨(HCL.out _ _ hbd).1,(HCL.out _ _ hbd).2.2.2.2.2.1⟩|exact⟨hbr.rcells.elim (fun _ h=>h.elim (fun _ h=>h.elim (fun _ h=>h.2.1.c0))),(bxCell hbr (mcm _ (mcs ..)) 5 rfl).1⟩)
     (first
      |(go_at_call 80;with_reducible refine Calls.mono (CW.out _ _ hbd) ?_;rintro _ wM ⟨_,rfl,hbN⟩;clear hbd;have hbd:=hbN;clear hbN;obtain⟨_,_,_,_,_,_,⟨u6,u7⟩,⟨u8,u9⟩⟩:=HCL.out _ _ hbd;have hbr:=HRES.out _ _ hbd 0 acc))
    have HBR:=Lib.hid hbr
    clear hbd hbr HRES HCL CW
    go_wp2_with fail
    refine bodyPost_ret (results_r1 rfl rfl (bxCell HBR.out (mcs ..) 0 rfl).1 (bxCell HBR.out (mcs ..) 1 rfl).1) rfl ?_
    exact⟨rfl,HBR.out.less (fun x hx=>mcm _ (mcm _ hx))⟩
   ·have e3:(ak==3)=false:=beq_eq_false_iff_ne.2 k3
    rw[if_neg k3,if_neg k3]
    clear CW
    go_enter Tryz.func74,Tryz.ntmps74
    go_wp2_with fail
    generalize (W.alloc (.cells #[.int .i64 ak,.int .i64 (s:Nat),.int .i64 az,.int .i64 aal,.int .i64 aw,.int .i64 av] 50)).alloc (.cells #[.int .i64 0,.int .i64 0] 66)=W2 at *
    go_region
    go_wp2_with fail
    refine Grew.use (CU.out _ _ hrest) (fun wN hoN=>?_)
    have hN:=hrest.still FR hoN
    have HN:=Lib.hid hN
    obtain⟨g0,g1,g2,g3,g4,g5,⟨g6,g7⟩,⟨g8,g9⟩⟩:=HCL.out _ _ hN
    clear hN hrest CU
    go_wp2_with fail
    refine Grew.use (CR.out _ _ HN.out) (fun wM hoM=>?_)
    have hM:=HN.out.still FR hoM
    have HBR:=Lib.hid (HRES.out _ _ hM rd acc)
    obtain⟨_,_,_,_,_,_,⟨u6,u7⟩,⟨u8,u9⟩⟩:=HCL.out _ _ hM
    clear hM HRES HCL CR
    go_wp2_with fail
    refine bodyPost_ret (results_r1 rfl rfl (bxCell HBR.out (mcs ..) 0 rfl).1 (bxCell HBR.out (mcs ..) 1 rfl).1) rfl ?_
    exact⟨rfl,HBR.out.less (fun x hx=>mcm _ (mcm _ hx))⟩
end Go.Proofs.YtcidjimefnhacaaGreatDoor
