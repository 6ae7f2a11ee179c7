/- TopSchedules, a part of the proof: Ru, Rv, Rw, Rx, Ry. -/
import Derived.Test.YtcidjimefnhacaaGreatDoorM41
import Derived.Test.YtcidjimefnhacaaGreatDoorM42
import Derived.Test.YtcidjimefnhacaaGreatDoorM43
import Derived.Test.YtcidjimefnhacaaGreatDoorM37
import Derived.Test.YtcidjimefnhacaaGreatDoorM40
import Derived.Test.YtcidjimefnhacaaGreatDoorM20
set_option linter.unusedVariables false
set_option linter.unusedSimpArgs false
namespace Go.Proofs.YtcidjimefnhacaaGreatDoor
open Go.RowKit
structure Fx (P:Hp) (pr:Nat->List Ac):Prop where
 T:Z.isTable P.T
 na:1<=P.na
 nt:P.nt<=3
 ok:PrOk P pr
theorem RI.small {P:Hp} {pr:Nat->List Ac} {S:HS} {R:RS} (h:RI P pr S R) (F:Fx P pr):(∀t,t<P.nt->R.bg t<=32)/\R.ev.length<=200:=by
 have hb:∀t,t<P.nt->R.bg t<=32:=fun t ht=>Nat.le_trans (h.bg t ht) (F.ok t ht).1
 refine⟨hb,Nat.le_trans h.evl ?_⟩
 have:=sumN_bound (f:=em S R) (c:=64) P.nt (fun i hi=>by
  have:=hb i hi
  unfold em
  omega)
 have:=F.nt
 have:P.nt*64<=3*64:=Nat.mul_le_mul_right _ F.nt
 omega
theorem rstep_at {P:Hp} {Q:RP} {pr:Nat->List Ac} (F:Fx P pr) {R:RS} {S:HS} {w W:World} {FP:List Nat} {bx:List (Nat×TypeId×Array Value)} (h:Ctx P S w FP (RunRec P Q pr R) bx W) (hI:RI P pr S R) {t:Nat} (ht:t<P.nt) (hn:S.ph t≠ .none):
 Calls Tryz.prog 56 #[.pointer (some ⟨Q.p,0,none⟩),.int .i64 t] W fun e W'=>e=.returned (.tuple #[])/\∃S' R',TStep P pr t S R S' R' true/\Ctx P S' w FP (RunRec P Q pr R') bx W':=by
 obtain⟨who,hi⟩:=hI.inv
 obtain⟨hbz,hb1,a,hat,hmid⟩:=hI.md t ht hn
 obtain⟨hbs,hes⟩:=hI.small F
 have hb:=hbs t ht
 have hok:=F.ok.at_ ht hat
 have key:Calls Tryz.prog 56 #[.pointer (some ⟨Q.p,0,none⟩),.int .i64 t] W fun e W'=>e=.returned (.tuple #[])/\∃S1 p' x er,PStep P S t (S.ph t) S1 p' (x,er)/\((p'≠ .none/\Ctx P (S1.phs t p') w FP (RunRec P Q pr R) bx W')\/(p'=.none/\Ctx P (S1.phs t .none) w FP (RunRec P Q pr (R.fin t a x er)) bx W')):=by
  rcases hmid with ⟨hk,_⟩|⟨hk,_⟩|⟨hk,_⟩
  ·exact rstep_malloc h hi ht F.nt rfl hn hok hk hat hb1 (by omega) (by omega) (F.ok t ht).1 hbz
  ·exact rstep_free h hi ht F.nt rfl hn hok hk hat hb1 (by omega) (by omega) (F.ok t ht).1 hbz
  ·exact rstep_flush h hi ht F.nt rfl hn hok hk hat hb1 (by omega) (by omega) (F.ok t ht).1 hbz
 refine key.mono ?_
 rintro e W' ⟨rfl,S1,p',x,er,hps,⟨hp',hc⟩|⟨rfl,hc⟩⟩
 ·exact⟨rfl,_,_,.step rfl hn hps hp',hc⟩
 ·exact⟨rfl,_,_,.done rfl hn hps hat,hc⟩
theorem rest_bz (R:RS) (t:Nat) (a:Ac):(R.rest t).beg t a=R.beg t a:=by
 unfold RS.rest RS.beg opB
 dsimp only
 rw[upd_twice]
theorem rest_wrd (R:RS) (t:Nat) (a:Ac) (x y:Int):({(R.rest t).wrd t a x y with bz:=(R.rest t).bz}:RS)=R.wrd t a x y:=rfl
theorem rbegin_at {P:Hp} {Q:RP} {pr:Nat->List Ac} (F:Fx P pr) {R:RS} {S:HS} {w W:World} {FP:List Nat} {bx:List (Nat×TypeId×Array Value)} {t:Nat} (h:Ctx P S w FP (RunRec P Q pr (R.rest t)) bx W) (hI:RI P pr S R) (ht:t<P.nt) (hn:S.ph t=.none) {a:Ac} (hat:(pr t)[R.bg t]? =some a) (hr:readyB R a=true):
 Calls Tryz.prog 57 #[.pointer (some ⟨Q.p,0,none⟩),.int .i64 t,a.val] W fun e W'=>e=.returned (.tuple #[])/\∃S' R',TStep P pr t S R S' R' true/\Ctx P S' w FP (RunRec P Q pr R') bx W':=by
 obtain⟨who,hi⟩:=hI.inv
 obtain⟨hbs,hes⟩:=hI.small F
 have hb:=hbs t ht
 have hok:=F.ok.at_ ht hat
 have hb':(R.rest t).bg t<=40:=by show R.bg t<=40;omega
 have he':(R.rest t).ev.length<=5000:=by show R.ev.length<=5000;omega
 obtain⟨hk0,hk4⟩:=hok.k
 have hsl:(R.rest t).sl=R.sl:=rfl
 have hpos:a.k≠0->a.k≠2->R.sl a.s.toNat=0\/(0<R.sl a.s.toNat/\∃b,S.lv (R.sl a.s.toNat)=some b):=fun h0 h2=>by
  unfold readyB at hr
  rw[if_neg h2,if_neg h0] at hr
  have hr:=of_decide_eq_true hr
  rcases hI.sok a.s.toNat with e|e|⟨e,e2⟩|⟨e,_⟩
  ·omega
  ·exact .inl e
  ·exact .inr ⟨e,Option.ne_none_iff_exists'.1 e2⟩
  ·omega
 rcases (show a.k=0\/a.k=1\/a.k=2\/(a.k=3\/a.k=4) by omega) with hk|hk|hk|hk
 ·refine(rbegin_malloc h ht F.nt hok hb' he' hk hn).mono ?_
  rintro e W' ⟨rfl,hc⟩
  rw[rest_bz] at hc
  exact⟨rfl,_,_,.op hn hat hr (.inl ⟨hk,rfl⟩),hc⟩
 ·rcases hpos (by omega) (by omega) with h0|⟨h0,b,hb2⟩
  ·refine(rbegin_fr0 h ht F.nt hok hb' he' hk h0).mono ?_
   rintro e W' ⟨rfl,hc⟩
   rw[rest_wrd] at hc
   exact⟨rfl,_,_,.fr0 hn hat hr hk h0,hc⟩
  ·obtain⟨q1,q2,_,q3,_⟩:=hi.lrange F.T hI.al hb2
   refine(rbegin_free h ht F.nt hok hb' he' hk hn ⟨h0,by rw[hsl];omega⟩).mono ?_
   rintro e W' ⟨rfl,hc⟩
   rw[rest_bz] at hc
   exact⟨rfl,_,_,.op hn hat hr (.inr (.inl ⟨hk,by omega,rfl⟩)),hc⟩
 ·refine(rbegin_flush h ht F.nt hok hb' he' hk hn).mono ?_
  rintro e W' ⟨rfl,hc⟩
  rw[rest_bz] at hc
  exact⟨rfl,_,_,.op hn hat hr (.inr (.inr ⟨hk,rfl⟩)),hc⟩
 ·have hsw:SlWd S (R.rest t) a:=by
   rcases hpos (by omega) (by omega) with h0|⟨h0,b,hb2⟩
   ·exact .inl h0
   ·obtain⟨q1,q2,_,q3,_⟩:=hi.lrange F.T hI.al hb2
    exact .inr ⟨h0,b,hb2,by omega,q2⟩
  refine(rbegin_wr h ht F.nt hok hb' he' hk hsw).mono ?_
  rintro e W' ⟨rfl,hc⟩
  rw[rest_wrd] at hc
  exact⟨rfl,_,_,.wr hn hat hr hk,hc⟩
set_option maxRecDepth 100000 in
set_option maxHeartbeats 16000000 in
theorem rturn_mid {P:Hp} {Q:RP} {pr:Nat->List Ac} (F:Fx P pr) {R:RS} {S:HS} {w W:World} {FP:List Nat} {bx:List (Nat×TypeId×Array Value)} (h:Ctx P S w FP (RunRec P Q pr R) bx W) (hI:RI P pr S R) {t:Nat} (ht:t<P.nt) (hn:S.ph t≠ .none):
 Calls Tryz.prog 40 #[.pointer (some ⟨Q.p,0,none⟩),.int .i64 t] W fun e W'=>∃mv,e=.returned (.bool mv)/\∃S' R',TStep P pr t S R S' R' mv/\Ctx P S' w FP (RunRec P Q pr R') bx W':=by
 have FR:=fun R=>RunRec.framed P Q pr R
 obtain⟨_,_,_,_,hr,_⟩:=h.rcells
 have z0:=hr.c0
 have CP:Grew Tryz.prog 28 #[.pointer (some ⟨P.h,0,none⟩),.int .i64 t] W (S.ph t).nm:=by
  obtain⟨_,_,⟨FPc,fs,hs,_⟩,_⟩:=h
  exact hPhase_at hs ht
 have CS:∀W2,Only [] W W2->Calls Tryz.prog 56 _ W2 _:=fun W2 ho=>rstep_at F (h.still (FR R) ho) hI ht hn
 have HCS:=Lib.hid CS
 have HCP:=Lib.hid CP
 clear h hr hI CS CP
 generalize S.ph t=p at *
 cases p
 case none=>exact absurd rfl hn
 all_goals
  unfold Ph.nm at HCP
  clear hn
  go_enter Tryz.func40,Tryz.ntmps40
  go_wp2_with fail
  refine Grew.use HCP.out (fun W2 ho=>?_)
  clear z0
  go_wp2_with fail
  refine(HCS.out W2 ho).mono ?_
  rintro r W3 ⟨rfl,hc⟩
  go_wp2_with fail
  refine bodyPost_ret (results_tmp rfl _ _ _) rfl ?_
  exact⟨_,rfl,hc⟩
set_option maxRecDepth 100000 in
set_option maxHeartbeats 16000000 in
theorem rturn_rest {P:Hp} {Q:RP} {pr:Nat->List Ac} (F:Fx P pr) {R:RS} {S:HS} {w W:World} {FP:List Nat} {bx:List (Nat×TypeId×Array Value)} (h:Ctx P S w FP (RunRec P Q pr R) bx W) (hI:RI P pr S R) {t:Nat} (ht:t<P.nt) (hn:S.ph t=.none):
 Calls Tryz.prog 40 #[.pointer (some ⟨Q.p,0,none⟩),.int .i64 t] W fun e W'=>∃mv,e=.returned (.bool mv)/\∃S' R',TStep P pr t S R S' R' mv/\Ctx P S' w FP (RunRec P Q pr R') bx W':=by
 have FR:=fun R=>RunRec.framed P Q pr R
 have h3:=F.nt
 have ht4:(t:Int)<4:=by omega
 obtain⟨_,_,_,_,hr,_⟩:=h.rcells
 have z0:=hr.c0
 have CP:Grew Tryz.prog 28 #[.pointer (some ⟨P.h,0,none⟩),.int .i64 t] W (S.ph t).nm:=by
  obtain⟨_,_,⟨FPc,fs,hs,_⟩,_⟩:=h
  exact hPhase_at hs ht
 have HC:∀W2,Only [] W W2->Ctx P S w FP (RunRec P Q pr R) bx W2:=fun W2 ho=>h.still (FR R) ho
 rw[hn] at CP
 unfold Ph.nm at CP
 have HCP:=Lib.hid CP
 have HCC:=Lib.hid HC
 have HI:=Lib.hid hI
 clear h hr CP HC hI
 go_enter Tryz.func40,Tryz.ntmps40
 go_wp2_with fail
 refine Grew.use HCP.out (fun W2 ho=>?_)
 have hc2:=HCC.out W2 ho
 obtain⟨_,_,_,_,hr2,_⟩:=hc2.rcells
 have zg:=hr2.fz (26+t)
 have zb:=hr2.bz t (by omega)
 have hc3:=hc2.setRun (R':=R.rest t) (26+t) (.bool false) rfl (fun v k _=>runF_bz t (by omega) false k)
 clear z0 hr2
 have HC3:=Lib.hid hc3
 clear hc3 hc2
 go_wp2_with fail
 have hlp:=(F.ok t ht).1
 cases hat:(pr t)[R.bg t]? with
 |none=>
  have CN:=rnext_none HC3.out ht (by omega) hlp hat
  refine Grew.use CN (fun W3 ho3=>?_)
  clear CN zg zb
  have hc4:=(HC3.out.still (FR _) ho3).push (FR _) #[.int .i64 0,.int .i64 0,.int .i64 0,.int .i64 0,.int .i64 0,.int .i64 0] 50
  have HC4:=Lib.hid hc4
  clear hc4
  go_wp2_with fail
  refine bodyPost_ret (results_tmp rfl _ _ _) rfl ?_
  exact⟨_,rfl,S,R.rest t,.idle hn (fun a h=>by rw[hat] at h;cases h),HC4.out.less (fun x hx=>mcm _ hx)⟩
 |some a=>
  have CN:=rnext_some HC3.out ht (by omega) hlp hat
  refine Grew.use CN (fun W3 ho3=>?_)
  clear CN zg zb
  have hc4:=(HC3.out.still (FR _) ho3).push (FR _) #[.int .i64 a.k,.int .i64 a.s,.int .i64 a.z,.int .i64 a.al,.int .i64 a.w,.int .i64 a.v] 50
  have HC4:=Lib.hid hc4
  clear hc4
  unfold Ac.val
  go_wp2_with fail
  have CR:=rready_at HC4.out (by omega) (F.ok.at_ ht hat)
  rw[show readyB (R.rest t) a=readyB R a from rfl] at CR
  unfold Ac.val at CR
  refine Grew.use CR (fun W4 ho4=>?_)
  clear CR
  have hc5:=HC4.out.still (FR _) ho4
  have y0:=(bxCell hc5 (mcs ..) 0 rfl).1
  have y1:=(bxCell hc5 (mcs ..) 1 rfl).1
  have y2:=(bxCell hc5 (mcs ..) 2 rfl).1
  have y3:=(bxCell hc5 (mcs ..) 3 rfl).1
  have y4:=(bxCell hc5 (mcs ..) 4 rfl).1
  have y5:=(bxCell hc5 (mcs ..) 5 rfl).1
  have HC5:=Lib.hid hc5
  clear hc5
  cases hrd:readyB R a with
  |false=>
   go_wp2_with fail
   refine bodyPost_ret (results_tmp rfl _ _ _) rfl ?_
   exact⟨_,rfl,S,R.rest t,.idle hn (fun b h=>by rw[hat] at h;cases h;exact hrd),HC5.out.less (fun x hx=>mcm _ hx)⟩
  |true=>
   have CB:=rbegin_at F (HC5.out.less (bx':=bx) (fun x hx=>mcm _ hx)) HI.out ht hn hat hrd
   unfold Ac.val at CB
   have HCB:=Lib.hid CB
   clear CB
   go_wp2_with fail
   refine HCB.out.mono ?_
   rintro r W5 ⟨rfl,hc⟩
   go_wp2_with fail
   refine bodyPost_ret (results_tmp rfl _ _ _) rfl ?_
   exact⟨_,rfl,hc⟩
theorem rturn_at {P:Hp} {Q:RP} {pr:Nat->List Ac} (F:Fx P pr) {R:RS} {S:HS} {w W:World} {FP:List Nat} {bx:List (Nat×TypeId×Array Value)} (h:Ctx P S w FP (RunRec P Q pr R) bx W) (hI:RI P pr S R) {t:Nat} (ht:t<P.nt):
 Calls Tryz.prog 40 #[.pointer (some ⟨Q.p,0,none⟩),.int .i64 t] W fun e W'=>∃mv,e=.returned (.bool mv)/\∃S' R',TStep P pr t S R S' R' mv/\Ctx P S' w FP (RunRec P Q pr R') bx W':=by
 by_cases hn:S.ph t=.none
 ·exact rturn_rest F h hI ht hn
 ·exact rturn_mid F h hI ht hn
theorem RI.turned {P:Hp} {Q:RP} {pr:Nat->List Ac} (F:Fx P pr) {R R':RS} {S S':HS} {w W:World} {FP:List Nat} {bx:List (Nat×TypeId×Array Value)} (h:Ctx P S w FP (RunRec P Q pr R) bx W) (hI:RI P pr S R) {t:Nat} (ht:t<P.nt) {mv:Bool} (hs:TStep P pr t S R S' R' mv):RI P pr S' R':=by
 obtain⟨_,_,⟨FPc,fs,hsy,_⟩,_⟩:=h
 exact hI.turn F.T F.na F.ok (fun a k ha hk=>hsy.good a k ha hk) ht hs
structure RK (P:Hp) (pr:Nat->List Ac) (N:Nat) (S:HS) (R:RS):Prop where
 ri:RI P pr S R
 ra:failE R.ev=false->RA P pr S R
 lf:left P pr S R<=N
theorem RK.turned {P:Hp} {Q:RP} {pr:Nat->List Ac} {N:Nat} (F:Fx P pr) (hcl:∀t,t<P.nt->Clr (pr t)) {R R':RS} {S S':HS} {w W:World} {FP:List Nat} {bx:List (Nat×TypeId×Array Value)} (h:Ctx P S w FP (RunRec P Q pr R) bx W) (k:RK P pr N S R) {t:Nat} (ht:t<P.nt) {mv:Bool} (hs:TStep P pr t S R S' R' mv):
 RK P pr N S' R'/\left P pr S' R'+(if mv then 1 else 0)<=left P pr S R:=by
 obtain⟨_,_,⟨FPc,fs,hsy,_⟩,_⟩:=h
 have hG:=fun a k ha hk=>hsy.good a k ha hk
 have hl:=left_turn F.T F.na (Nat.le_trans F.nt (by decide)) k.ri ht hs
 refine⟨⟨k.ri.turn F.T F.na F.ok hG ht hs,RA.turn F.T F.na F.ok hcl k.ri k.ra hG ht hs,?_⟩,hl⟩
 have:=k.lf
 split at hl<;>omega
theorem fld_cfg2 (a b c d e:Value) (W:World):Sem.run Tryz.prog (Instr.field 27 (.agg #[a,b,c,d,e]) 2) W=.ok c W:=by kernel_rfl
set_option maxRecDepth 100000 in
set_option maxHeartbeats 4000000 in
theorem ris_at {P:Hp} {Q:RP} {pr:Nat->List Ac} {R:RS} {S:HS} {w W:World} {FP:List Nat} {bx:List (Nat×TypeId×Array Value)} (h:Ctx P S w FP (RunRec P Q pr R) bx W) {x:Int} (h0:0<=x) (h1:x<P.nt):Grew Tryz.prog 39 #[.pointer (some ⟨Q.p,0,none⟩),.int .i64 x] W (.bool true):=by
 obtain⟨_,_,_,_,hr,_⟩:=h.rcells
 have z0:=hr.c0
 have CC:Grew Tryz.prog 34 #[.pointer (some ⟨P.h,0,none⟩)] W (.agg #[.int .i64 256,.int .i64 P.na,.int .i64 P.nt,.int .i64 P.bud,.int .i64 P.room]):=by
  obtain⟨_,_,⟨FPc,fs,hs,_⟩,_⟩:=h
  exact hconfig_at hs
 have HCC:=Lib.hid CC
 have d0:decide (x≥0)=true:=decide_eq_true h0
 have d1:decide (x<(P.nt:Int))=true:=decide_eq_true h1
 clear h hr CC
 generalize P.nt=n at *
 go_enter Tryz.func39,Tryz.ntmps39
 go_wp2_with fail
 refine Grew.use HCC.out (fun W2 ho=>?_)
 go_wp2_with fail
 rw[fld_cfg2]
 go_wp2_with fail
 go_ret
 exact⟨rfl,ho⟩
structure TSl (bx:List (Nat×TypeId×Array Value)) (nt:Nat) (v:Value) (n:Nat):Prop where
 ex:∃A c,v=.slice A n c/\n<=c/\∀i,i<n->∃g off cs,A=some ⟨g,off,none⟩/\(g,3,cs)∈bx/\∃x:Nat,x<nt/\cs[off+i]? =some (.int .i64 (x:Nat))
 le:n<=10000
set_option maxRecDepth 100000 in
set_option maxHeartbeats 4000000 in
theorem rplay_at {P:Hp} {Q:RP} {pr:Nat->List Ac} {N:Nat} (F:Fx P pr) (hcl:∀t,t<P.nt->Clr (pr t)) {R:RS} {S:HS} {w W:World} {FP:List Nat} {bx:List (Nat×TypeId×Array Value)} (h:Ctx P S w FP (RunRec P Q pr R) bx W) (k:RK P pr N S R) {v:Value} {n:Nat} (hv:TSl bx P.nt v n):
 Calls Tryz.prog 20 #[.pointer (some ⟨Q.p,0,none⟩),v] W fun e W'=>(∃m:Nat,e=.returned (.tuple #[.int .i64 (m:Nat),.int .i64 0]))/\∃S' R',RK P pr N S' R'/\Ctx P S' w FP (RunRec P Q pr R') bx W':=by
 have FR:=fun R=>RunRec.framed P Q pr R
 obtain⟨⟨A,c,rfl,hc,hsl⟩,hn⟩:=hv
 have CM:=Lib.hid (rmade_at h)
 have HS:=Lib.hid hsl
 have HH:=Lib.hid h
 have HK:=Lib.hid k
 have d1:decide (10000<(n:Int))=false:=decide_eq_false (by omega)
 clear hsl h k
 go_enter Tryz.func20,Tryz.ntmps20
 go_wp2_with (first|(go_at_call 25;with_reducible refine Still.use CM.out ?_))
 go_loopw[19] (fun t wr=>∃i:Nat,i<=n/\t=.int .i64 i/\Ctx P S w FP (RunRec P Q pr R) bx wr) (fun t _=>n-(intOf t).toNat)
 case atStart=>exact⟨0,Nat.zero_le _,rfl,HH.out⟩
 case round=>
  obtain⟨i,hi,rfl,hcx⟩:=hrel
  rcases Nat.lt_or_ge i n with hlt|hge
  ·obtain⟨g,off,cs,rfl,hm,x,hx,he⟩:=HS.out i hlt
   have y0:=(hcx.box hm).cell_ (off+i) he
   have CI:=ris_at hcx (x:=(x:Nat)) (by omega) (by omega)
   have HCX:=Lib.hid hcx
   have HCI:=Lib.hid CI
   have hlt':(i:Int)<n:=by omega
   clear hcx CI
   go_wp2_with fail
   refine Grew.use HCI.out (fun W2 ho=>?_)
   go_wp2_with fail
   go_roundw
   case rel=>exact⟨i+1,by omega,by go_num,HCX.out.still (FR _) ho⟩
   case measure=>simp[intOf];omega
  ·have hlt':¬((i:Int)<n):=by omega
   have HCX:=Lib.hid hcx
   clear hcx
   go_wp2_with fail
   go_loopw[8,30] (fun t8 t30 wr=>∃i m:Nat,m<=i/\i<=n/\t8=.int .i64 m/\t30=.int .i64 i/\∃S' R',RK P pr N S' R'/\Ctx P S' w FP (RunRec P Q pr R') bx wr) (fun _ t _=>n-(intOf t).toNat)
   case atStart=>exact⟨0,0,Nat.le_refl _,Nat.zero_le _,rfl,rfl,S,R,HK.out,HCX.out⟩
   case round=>
    obtain⟨i,m,hm0,hi,rfl,rfl,S1,R1,hk1,hc1⟩:=hrel
    rcases Nat.lt_or_ge i n with hlt|hge
    ·obtain⟨g,off,cs,rfl,hm,x,hx,he⟩:=HS.out i hlt
     have y0:=(hc1.box hm).cell_ (off+i) he
     have CI:=rturn_at F hc1 hk1.ri hx
     have HC1:=Lib.hid hc1
     have HCI:=Lib.hid CI
     have HK1:=Lib.hid hk1
     have hlt':(i:Int)<n:=by omega
     clear hc1 CI hk1
     go_wp2_with fail
     refine HCI.out.mono ?_
     rintro r W2 ⟨mv,rfl,S2,R2,hts,hc2⟩
     have HK2:=Lib.hid (HK1.out.turned F hcl HC1.out hx hts).1
     have HC2:=Lib.hid hc2
     clear hc2 hts
     cases mv
     all_goals
      go_wp2_with fail
      go_roundw
      case rel=>first|exact⟨i+1,m+1,by omega,by omega,by go_num,by go_num,S2,R2,HK2.out,HC2.out⟩|exact⟨i+1,m,by omega,by omega,by go_num,by go_num,S2,R2,HK2.out,HC2.out⟩
      case measure=>
       show n-((i:Int)+1).toNat<n-(i:Int).toNat
       omega
    ·have hlt':¬((i:Int)<n):=by omega
     have e:i=n:=by omega
     have HC1:=Lib.hid hc1
     have HK1:=Lib.hid hk1
     subst e
     clear hc1 hk1
     go_wp2_with fail
     go_ret2
     exact⟨⟨_,rfl⟩,S1,R1,HK1.out,HC1.out⟩
def Idle (j:Nat) (pr:Nat->List Ac) (S:HS) (R:RS):Prop:=∀t,t<j->S.ph t=.none/\∀a,(pr t)[R.bg t]? =some a->readyB R a=false
theorem TStep.idle_ {P:Hp} {pr:Nat->List Ac} {t:Nat} {S S':HS} {R R':RS} (h:TStep P pr t S R S' R' false) {j:Nat} (hi:Idle j pr S R) (hj:j=t):Idle (j+1) pr S' R':=by
 subst hj
 cases h with
 |idle hp hr=>
  intro u hu
  rcases Nat.lt_or_ge u j with c|c
  ·exact hi u c
  ·obtain rfl:u=j:=by omega
   exact⟨hp,hr⟩
set_option maxRecDepth 100000 in
set_option maxHeartbeats 4000000 in
theorem rfinish_at {P:Hp} {Q:RP} {pr:Nat->List Ac} {N:Nat} (hN:N<=9999) (F:Fx P pr) (hcl:∀t,t<P.nt->Clr (pr t)) {R:RS} {S:HS} {w W:World} {FP:List Nat} {bx:List (Nat×TypeId×Array Value)} (h:Ctx P S w FP (RunRec P Q pr R) bx W) (k:RK P pr N S R):
 Calls Tryz.prog 21 #[.pointer (some ⟨Q.p,0,none⟩)] W fun e W'=>(∃m:Nat,e=.returned (.tuple #[.int .i64 (m:Nat),.int .i64 0]))/\∃S' R',RK P pr N S' R'/\Ended P pr S' R'/\Ctx P S' w FP (RunRec P Q pr R') bx W':=by
 have FR:=fun R=>RunRec.framed P Q pr R
 have CM:=Lib.hid (rmade_at h)
 have HH:=Lib.hid h
 have HK:=Lib.hid k
 have h3:=F.nt
 clear h k
 go_enter Tryz.func21,Tryz.ntmps21
 go_wp2_with (first|(go_at_call 25;with_reducible refine Still.use CM.out ?_))
 go_loopw[4] (fun t wr=>∃(n:Nat) (S1:HS) (R1:RS),n<=N/\t=.int .i64 n/\n+left P pr S1 R1<=N/\RK P pr N S1 R1/\Ctx P S1 w FP (RunRec P Q pr R1) bx wr) (fun t _=>N-(intOf t).toNat)
 case atStart=>exact⟨0,S,R,Nat.zero_le _,rfl,by have:=HK.out.lf;omega,HK.out,HH.out⟩
 case round=>
  obtain⟨n0,S0,R0,hn0,rfl,hl0,hk0,hc0⟩:=hrel
  obtain⟨_,_,_,_,hr0,_,hcp⟩:=hc0.rcells
  have z1:=hr0.c1
  have HC0:=Lib.hid hc0
  have HK0:=Lib.hid hk0
  have HL0:=Lib.hid hl0
  clear hc0 hk0 hr0 hl0
  go_wp2_with fail
  go_loopw[4,5,15] (fun t4 t5 t15 wr2=>∃(n j:Nat) (mv:Bool) (S1:HS) (R1:RS),n0<=n/\(mv=true->n0<n)/\n<=N/\j<=P.nt/\t4=.int .i64 n/\t5=.bool mv/\t15=.int .i64 j/\n+left P pr S1 R1<=N/\RK P pr N S1 R1/\(mv=false->Idle j pr S1 R1)/\Ctx P S1 w FP (RunRec P Q pr R1) bx wr2) (fun _ _ t _=>P.nt-(intOf t).toNat)
  case atStart=>exact⟨n0,0,false,S0,R0,Nat.le_refl _,(fun h=>by cases h),hn0,Nat.zero_le _,rfl,rfl,rfl,HL0.out,HK0.out,(fun _ t ht=>by omega),HC0.out⟩
  case round=>
   obtain⟨n,j,mv,S1,R1,hn1,hmv,hn2,hj,rfl,rfl,rfl,hl1,hk1,hid,hc1⟩:=hrel
   have HMV:=Lib.hid hmv
   have HID:=Lib.hid hid
   have HK1:=Lib.hid hk1
   have HL1:=Lib.hid hl1
   have HC1:=Lib.hid hc1
   have dn:((n:Int)==10000)=false:=beq_eq_false_iff_ne.2 (by omega)
   clear hmv hid hk1 hl1 hc1
   rcases Nat.lt_or_ge j P.nt with hlt|hge
   ·have CI:=rturn_at F HC1.out HK1.out.ri hlt
    have HCI:=Lib.hid CI
    have hlt':(j:Int)<P.nt:=by omega
    have HLT:=Lib.hid hlt
    clear CI
    go_wp2_with fail
    refine HCI.out.mono ?_
    rintro r W2 ⟨mv2,rfl,S2,R2,hts,hc2⟩
    obtain⟨hk2,hl2⟩:=HK1.out.turned F hcl HC1.out HLT.out hts
    have HK2:=Lib.hid hk2
    have HC2:=Lib.hid hc2
    have HTS:=Lib.hid hts
    have hl3:=HL1.out
    clear hk2 hc2 hts
    cases mv2
    ·have hl4:left P pr S2 R2<=left P pr S1 R1:=by simpa using hl2
     have HL4:Hid (n+left P pr S2 R2<=N):=by show _<=_;omega
     clear hl2 hl3 hl4
     go_wp2_with fail
     go_roundw
     case rel=>exact⟨n,j+1,mv,S2,R2,hn1,HMV.out,hn2,HLT.out,rfl,rfl,by go_num,HL4.out,HK2.out,(fun e=>HTS.out.idle_ (HID.out e) rfl),HC2.out⟩
     case measure=>
      have:=HLT.out
      show P.nt-((j:Int)+1).toNat<P.nt-(j:Int).toNat
      omega
    ·have hl4:left P pr S2 R2+1<=left P pr S1 R1:=by simpa using hl2
     have HL4:Hid (n+1+left P pr S2 R2<=N):=by show _<=_;omega
     clear hl2 hl3 hl4
     go_wp2_with fail
     go_roundw
     case rel=>exact⟨n+1,j+1,true,S2,R2,by omega,(fun _=>by omega),by have:=HL4.out;omega,HLT.out,by go_num,rfl,by go_num,HL4.out,HK2.out,(fun e=>by cases e),HC2.out⟩
     case measure=>
      have:=HLT.out
      show P.nt-((j:Int)+1).toNat<P.nt-(j:Int).toNat
      omega
   ·have hlt':¬((j:Int)<P.nt):=by omega
    have HJ:Hid (j=P.nt):=by show _=_;omega
    cases mv
    ·have HI2:=Lib.hid (HID.out rfl)
     clear HID
     go_wp2_with fail
     go_ret2
     exact⟨⟨_,rfl⟩,S1,R1,HK1.out,(fun t ht=>HI2.out t (by rw[HJ.out];exact ht)),HC1.out⟩
    ·have hlt2:=HMV.out rfl
     go_wp2_with fail
     go_roundw
     case rel=>exact⟨n,S1,R1,hn2,rfl,HL1.out,HK1.out,HC1.out⟩
     case measure=>
      show N-(n:Int).toNat<N-(n0:Int).toNat
      omega
theorem own0_9 (w:World):(w.alloc (.cells #[] 68)).ownsRow w.heap.size 68 9 (.slice (some ⟨w.heap.size,0,none⟩) 0 0) 0 []:=World.ownsRow_lit w #[] 0 (Nat.le_refl _) (Nat.zero_le _) rfl
theorem eone (l:List Ev):∀u∈evCells l,u.oneCell'=true:=by
 intro u hu
 obtain⟨c,_,hc⟩:=List.mem_flatMap.1 hu
 unfold Ev.cells at hc
 simp at hc
 rcases hc with rfl|rfl|rfl|rfl|rfl|rfl|rfl|rfl|rfl<;>rfl
theorem ecells {W:World} {g n c:Nat} {L:List Ev} (h:W.ownsRow 0 68 9 (.slice (some ⟨g,0,none⟩) n c) n (evCells L)):∀j u,(evCells L)[j]? =some u->W.cell? ⟨g,j,none⟩=some u:=by
 rcases h.2 with ⟨h2,h3⟩|⟨g',cap,cur,hv,hg0,hg,h3,h4,h5,h6⟩
 ·cases h2
 ·injection hv with e1 _ e3
  injection e1 with e1
  injection e1 with e1 _ _
  subst e1 e3
  intro j u hu
  have hB:Blk W g 68 cur:=hg
  have hj:j<n*9:=by
   have:=(List.getElem?_eq_some_iff.1 hu).1
   rw[h.1] at this
   exact this
  refine hB.cell_ j ?_
  rw[<-hu,<-h6,List.getElem?_take,if_pos hj,Array.getElem?_toList]
set_option maxHeartbeats 1000000 in
theorem eclone_at {w:World} {v:Value} {L:List Ev} (h:w.ownsRow 0 68 9 v L.length (evCells L)) (hn:L.length<=1000):Calls Tryz.prog 51 #[v] w fun e w'=>
 ∃v',e=.returned v'/\w'.ownsRow w.heap.size 68 9 v' L.length (evCells L)/\Only [] w w':=by
 obtain⟨i0,hi,hz0,hz1,hz2⟩:=info_parts info_ev
 rcases Nat.eq_zero_or_pos L.length with h0|h0
 ·have hL:L=[]:=List.length_eq_zero_iff.1 h0
  subst hL
  obtain⟨A,c,rfl,_⟩:=own_slice h
  have hc:A=none->c=0:=fun e=>by
   subst e
   rcases h.2 with ⟨h2,_⟩|⟨g,cap,cur,h2,_⟩
   ·injection h2
   ·cases h2
  cases A with
  |none=>
   have e:=hc rfl
   subst e
   have hnil:=Lib.run_eql_slice_nil (P:=Tryz.prog) w 61 68 none 0 0 0 0 Tryz.underlying61
   clear h
   go_enter Tryz.func51,Tryz.ntmps51
   go_wp2_with fail
   go_ret
   exact⟨_,rfl,World.ownsRow_nil _ _ _ _,Only.refl _ _⟩
  |some ad=>
   have hnil:=Lib.run_eql_slice_nil (P:=Tryz.prog) w 61 68 (some ad) 0 c 0 0 Tryz.underlying61
   clear h hc
   go_enter Tryz.func51,Tryz.ntmps51
   go_wp2_with (at_builtin;refine wpList_append_own _ rfl _ _ 61 rfl w.heap.size 68 i0 (.agg #[.int .i64 0,.int .i64 0,.bool false,.int .i64 0,.int .i64 0,.int .i64 0,.int .i64 0,.int .i64 0,.int .i64 0]) 9 72 Tryz.underlying61 hi hz0 hz1 hz2 rfl (by decide) _ _ _ rfl (own0_9 w) ad 0 c [] rfl rfl (fun j u hu=>by simp at hu) (fun u hu=>by simp at hu) (by unfold maxLen;omega) (by omega) (by simp) ?_;intro v1 w1 hown1 hg1 _)
   go_ret
   refine⟨_,rfl,by simpa[evCells] using hown1,((Only.refl [] w).alloc _).grown hg1 (fun k hk=>.inr (own_base (own0_9 w) k hk))⟩
 ·obtain⟨g,c,rfl,_,hgl⟩:=own_form h h0
  have hnil:=Lib.run_eql_slice_nil (P:=Tryz.prog) w 61 68 (some ⟨g,0,none⟩) L.length c 0 0 Tryz.underlying61
  have HC:Hid (∀j (u:Value),(evCells L)[j]? =some u->(w.alloc (.cells #[] 68)).cell? ((⟨g,0,none⟩:Addr).add j)=some u):=fun j u hu=>by
   rw[Addr.add_lit,Nat.zero_add]
   exact(World.cell?_alloc_lt w _ _ hgl).trans (ecells h j u hu)
  have H1:Hid (∀u∈evCells L,u.oneCell'=true):=eone L
  have HLEN:Hid ((evCells L).length=L.length*9):=evCells_len L
  clear h
  generalize evCells L=xs at *
  generalize L.length=n at *
  go_enter Tryz.func51,Tryz.ntmps51
  go_wp2_with (at_builtin;refine wpList_append_own _ rfl _ _ 61 rfl w.heap.size 68 i0 (.agg #[.int .i64 0,.int .i64 0,.bool false,.int .i64 0,.int .i64 0,.int .i64 0,.int .i64 0,.int .i64 0,.int .i64 0]) 9 72 Tryz.underlying61 hi hz0 hz1 hz2 rfl (by decide) _ _ _ rfl (own0_9 w) ⟨g,0,none⟩ n c xs rfl HLEN.out HC.out H1.out (by unfold maxLen;omega) (by omega) (by simp) ?_;intro v1 w1 hown1 hg1 _)
  go_ret
  refine⟨_,rfl,by simpa[evCells] using hown1,((Only.refl [] w).alloc _).grown hg1 (fun k hk=>.inr (own_base (own0_9 w) k hk))⟩
set_option maxRecDepth 100000 in
theorem rheap_at {P:Hp} {Q:RP} {pr:Nat->List Ac} {R:RS} {S:HS} {w W:World} {FP:List Nat} {bx:List (Nat×TypeId×Array Value)} (h:Ctx P S w FP (RunRec P Q pr R) bx W):Still Tryz.prog 15 #[.pointer (some ⟨Q.p,0,none⟩)] W (.pointer (some ⟨P.h,0,none⟩)):=by
 obtain⟨_,_,_,_,hr,_⟩:=h.rcells
 have z0:=hr.c0
 have CM:=Lib.hid (rmade_at h)
 clear h hr
 go_enter Tryz.func15,Tryz.ntmps15
 go_wp2_with (first|(go_at_call 25;with_reducible refine Still.use CM.out ?_))
 go_ret
 exact⟨rfl,rfl⟩
set_option maxRecDepth 100000 in
theorem revents_at {P:Hp} {Q:RP} {pr:Nat->List Ac} {R:RS} {S:HS} {w W:World} {FP:List Nat} {bx:List (Nat×TypeId×Array Value)} (h:Ctx P S w FP (RunRec P Q pr R) bx W) (hn:R.ev.length<=1000):Calls Tryz.prog 24 #[.pointer (some ⟨Q.p,0,none⟩)] W fun e W'=>
 ∃v',e=.returned v'/\W'.ownsRow W.heap.size 68 9 v' R.ev.length (evCells R.ev)/\Only [] W W':=by
 obtain⟨v,A,c,e,hr,how,_⟩:=h.rcells
 have z0:=hr.ev
 have CM:=Lib.hid (rmade_at h)
 have CC:=Lib.hid (eclone_at how hn)
 clear h hr how e
 go_enter Tryz.func24,Tryz.ntmps24
 go_wp2_with (first|(go_at_call 25;with_reducible refine Still.use CM.out ?_))
 refine CC.out.mono ?_
 rintro r W2 ⟨v',rfl,h1,h2⟩
 go_wp2_with fail
 go_ret
 exact⟨_,rfl,h1,h2⟩
end Go.Proofs.YtcidjimefnhacaaGreatDoor
