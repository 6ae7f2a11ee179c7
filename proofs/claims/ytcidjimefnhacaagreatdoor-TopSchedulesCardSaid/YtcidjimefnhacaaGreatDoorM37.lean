/- TopSchedules, a part of the proof: Re, Rf. -/
import Derived.Test.YtcidjimefnhacaaGreatDoorM36
set_option linter.unusedVariables false
set_option linter.unusedSimpArgs false
namespace Go.Proofs.YtcidjimefnhacaaGreatDoor
open Go.RowKit
structure SQ where
 sl:Nat->Option (Int×(Nat->Int))
 td:List (Int×Int)
def sq1 (T:List Z.Cl) (σ:SQ) (a:Ac):SQ:=
 if a.k=0 then⟨upd σ.sl a.s.toNat (some (usz T a.z,fun j=>(j:Int))),σ.td⟩
 else if a.k=1 then⟨upd σ.sl a.s.toNat none,σ.td⟩
 else if a.k=2 then σ
 else match σ.sl a.s.toNat with
  |none=>σ
  |some (u,ws)=>if u<a.w*8+8 then⟨σ.sl,σ.td++[(7,0)]⟩ else if a.k=3 then⟨upd σ.sl a.s.toNat (some (u,upd ws a.w.toNat a.v)),σ.td++[(0,0)]⟩ else⟨σ.sl,σ.td++[(0,ws a.w.toNat)]⟩
def sq (T:List Z.Cl) (l:List Ac):Nat->SQ
 |0=>⟨fun _=>none,[]⟩
 |k+1=>match l[k]? with
  |some a=>sq1 T (sq T l k) a
  |none=>sq T l k
theorem sq_succ {T:List Z.Cl} {l:List Ac} {k:Nat} {a:Ac} (h:l[k]? =some a):sq T l (k+1)=sq1 T (sq T l k) a:=by rw[sq,h]
def rdyQ (σ:SQ) (a:Ac):Bool:=if a.k=2 then true else if a.k=0 then(σ.sl a.s.toNat).isNone else(σ.sl a.s.toNat).isSome
def toldE (ev:List Ev) (t:Nat):List (Int×Int):=(ev.filter (fun e=>e.e&&(decide (e.t=(t:Int))&&decide (e.o.k<0)))).map (fun e=>(e.re,e.ra))
def failE (ev:List Ev):Bool:=ev.any (fun e=>e.e&&(decide (e.o.k=0)&& !decide (e.re=0)))
theorem toldE_app (l m:List Ev) (t:Nat):toldE (l++m) t=toldE l t++toldE m t:=by unfold toldE;rw[List.filter_append,List.map_append]
theorem failE_app {l m:List Ev} (h:failE (l++m)=false):failE l=false/\failE m=false:=by
 unfold failE at h ⊢
 rw[List.any_append,Bool.or_eq_false_iff] at h
 exact h
def Pend (l:List Ac) (k s j:Nat):Prop:=∃i,k<=i/\(∃a,l[i]? =some a/\a.w=(j:Int)/\a.v=(j:Int))/\∀m,k<=m->m<=i->∃a,l[m]? =some a/\a.k=3/\a.s.toNat=s
theorem Pend.next {l:List Ac} {k s j:Nat} {a:Ac} (h:Pend l k s j) (ha:l[k]? =some a):(a.k=3/\a.s.toNat=s)/\((a.w=(j:Int)/\a.v=(j:Int))\/Pend l (k+1) s j):=by
 obtain⟨i,h1,⟨b,h2,h3⟩,h4⟩:=h
 constructor
 ·obtain⟨c,c1,c2⟩:=h4 k (Nat.le_refl _) h1
  obtain rfl:=Option.some.inj (ha.symm.trans c1)
  exact c2
 ·by_cases e:i=k
  ·subst e
   obtain rfl:=Option.some.inj (ha.symm.trans h2)
   exact .inl h3
  ·exact .inr ⟨i,by omega,⟨b,h2,h3⟩,fun m m1 m2=>h4 m (by omega) m2⟩
theorem Pend.here {l:List Ac} {k s j:Nat} (h:Pend l k s j):∃a,l[k]? =some a/\a.k=3/\a.s.toNat=s:=by
 obtain⟨i,h1,_,h4⟩:=h
 exact h4 k (Nat.le_refl _) h1
def Clr (l:List Ac):Prop:=∀(k:Nat) (a:Ac),l[k]? =some a->a.k=0->∀j:Nat,j<3->∃b:Ac,l[k+1+j]? =some b/\b.k=3/\b.s=a.s/\b.w=(j:Int)/\b.v=(j:Int)
theorem Clr.pend {l:List Ac} (h:Clr l) {k:Nat} {a:Ac} (ha:l[k]? =some a) (hk:a.k=0) {j:Nat} (hj:j<3):Pend l (k+1) a.s.toNat j:=by
 obtain⟨b,b1,b2,b3,b4,b5⟩:=h k a ha hk j hj
 refine⟨k+1+j,by omega,⟨b,b1,b4,b5⟩,fun m m1 m2=>?_⟩
 obtain⟨c,c1,c2,c3,_⟩:=h k a ha hk (m-(k+1)) (by omega)
 rw[show k+1+(m-(k+1))=m by omega] at c1
 exact⟨c,c1,c2,by rw[c3]⟩
def SlR (P:Hp) (pr:Nat->List Ac) (S:HS) (R:RS) (t s:Nat):Prop:=match (sq P.T (pr t) (R.bg t)).sl s with
 |none=>R.sl s= -1
 |some (u,ws)=>R.sl s= -2\/(0<R.sl s/\∃b,S.lv (R.sl s)=some b/\b.size=u/\∀j:Nat,j<3->(j:Int)*8+8<=u->S.sp.h ((R.sl s+(j:Int)*8)/8)=ws j\/Pend (pr t) (R.bg t) s j)
theorem SlR.none_ {P:Hp} {pr:Nat->List Ac} {S:HS} {R:RS} {t s:Nat} (h:SlR P pr S R t s) (e:(sq P.T (pr t) (R.bg t)).sl s=none):R.sl s= -1:=by unfold SlR at h;rw[e] at h;exact h
theorem SlR.some_ {P:Hp} {pr:Nat->List Ac} {S:HS} {R:RS} {t s:Nat} (h:SlR P pr S R t s) {u:Int} {ws:Nat->Int} (e:(sq P.T (pr t) (R.bg t)).sl s=some (u,ws)):R.sl s= -2\/(0<R.sl s/\∃b,S.lv (R.sl s)=some b/\b.size=u/\∀j:Nat,j<3->(j:Int)*8+8<=u->S.sp.h ((R.sl s+(j:Int)*8)/8)=ws j\/Pend (pr t) (R.bg t) s j):=by unfold SlR at h;rw[e] at h;exact h
theorem SlR.mk_none {P:Hp} {pr:Nat->List Ac} {S:HS} {R:RS} {t s:Nat} (e:(sq P.T (pr t) (R.bg t)).sl s=none) (h:R.sl s= -1):SlR P pr S R t s:=by unfold SlR;rw[e];exact h
theorem SlR.mk_some {P:Hp} {pr:Nat->List Ac} {S:HS} {R:RS} {t s:Nat} {u:Int} {ws:Nat->Int} (e:(sq P.T (pr t) (R.bg t)).sl s=some (u,ws)) (h:R.sl s= -2\/(0<R.sl s/\∃b,S.lv (R.sl s)=some b/\b.size=u/\∀j:Nat,j<3->(j:Int)*8+8<=u->S.sp.h ((R.sl s+(j:Int)*8)/8)=ws j\/Pend (pr t) (R.bg t) s j)):SlR P pr S R t s:=by unfold SlR;rw[e];exact h
theorem SlR.keep {P:Hp} {pr:Nat->List Ac} {S S':HS} {R R':RS} {t s:Nat} (h:SlR P pr S R t s) (e1:R'.sl s=R.sl s) (e2:(sq P.T (pr t) (R'.bg t)).sl s=(sq P.T (pr t) (R.bg t)).sl s)
 (e3:0<R.sl s->∀b,S.lv (R.sl s)=some b->S'.lv (R.sl s)=some b/\∀j:Nat,j<3->(j:Int)*8+8<=b.size->S'.sp.h ((R.sl s+(j:Int)*8)/8)=S.sp.h ((R.sl s+(j:Int)*8)/8)/\(Pend (pr t) (R.bg t) s j->Pend (pr t) (R'.bg t) s j)):SlR P pr S' R' t s:=by
 cases hq:(sq P.T (pr t) (R.bg t)).sl s with
 |none=>exact SlR.mk_none (e2.trans hq) (e1.trans (h.none_ hq))
 |some x=>
  obtain⟨u,ws⟩:=x
  refine SlR.mk_some (e2.trans hq) ?_
  rw[e1]
  rcases h.some_ hq with h1|⟨h1,b,h2,rfl,h4⟩
  ·exact .inl h1
  ·obtain⟨q1,q2⟩:=e3 h1 b h2
   refine .inr ⟨h1,b,q1,rfl,fun j hj hu=>?_⟩
   obtain⟨q3,q4⟩:=q2 j hj hu
   rw[q3]
   exact(h4 j hj hu).imp_right q4
structure RA (P:Hp) (pr:Nat->List Ac) (S:HS) (R:RS):Prop where
 rdy:∀t,t<P.nt->∀i,i<R.bg t->∀a,(pr t)[i]? =some a->rdyQ (sq P.T (pr t) i) a=true
 rel:∀t,t<P.nt->∀s,s/5=t->SlR P pr S R t s
 td:∀t,t<P.nt->toldE R.ev t=(sq P.T (pr t) (R.bg t)).td
theorem RI.no2 {P:Hp} {pr:Nat->List Ac} {S:HS} {R:RS} (h:RI P pr S R) {t s:Nat} (hs:s/5=t) (hp:S.ph t=.none):R.sl s≠ -2:=fun e=>by
 rcases h.sok s with c|c|c|c
 ·omega
 ·omega
 ·omega
 ·rw[hs] at c;exact c.2.1 hp
theorem RA.ready {P:Hp} {pr:Nat->List Ac} (hpr:PrOk P pr) {S:HS} {R:RS} (h:RI P pr S R) (hA:RA P pr S R) {t:Nat} (ht:t<P.nt) (hp:S.ph t=.none) {a:Ac} (ha:(pr t)[R.bg t]? =some a):readyB R a=rdyQ (sq P.T (pr t) (R.bg t)) a:=by
 have hs:=(hpr.at_ ht ha).sn.2
 have hr:=hA.rel t ht _ hs
 have h2:=h.no2 hs hp
 unfold readyB rdyQ
 split
 ·rfl
 ·cases hq:(sq P.T (pr t) (R.bg t)).sl a.s.toNat with
  |none=>
   rw[hr.none_ hq]
   split<;>rfl
  |some x=>
   obtain⟨u,ws⟩:=x
   have h0:=((hr.some_ hq).resolve_left h2).1
   split
   ·exact decide_eq_false (by omega)
   ·exact decide_eq_true (by omega)
theorem sq1_other {T:List Z.Cl} {σ:SQ} {a:Ac} {s:Nat} (h:s≠a.s.toNat\/a.k=2):(sq1 T σ a).sl s=σ.sl s:=by
 unfold sq1
 split
 ·exact upd_ne (h.resolve_right (by omega))
 ·split
  ·exact upd_ne (h.resolve_right (by omega))
  ·split
   ·rfl
   ·split
    ·rfl
    ·split
     ·rfl
     ·split
      ·exact upd_ne (h.resolve_right (by omega))
      ·rfl
theorem RA.op {P:Hp} {pr:Nat->List Ac} (hpr:PrOk P pr) {S:HS} {R:RS} (h:RI P pr S R) (hA:RA P pr S R) {t:Nat} (ht:t<P.nt) {a:Ac} {o:Opr} (hp:S.ph t=.none) (ha:(pr t)[R.bg t]? =some a) (hr:readyB R a=true) (ho:OpOf R a o):RA P pr (S.phs t (phOf P.T o)) (R.beg t a):=by
 have hs:=(hpr.at_ ht ha).sn.2
 have hk:a.k=0\/a.k=1\/a.k=2:=by rcases ho with ⟨h,_⟩|⟨h,_⟩|⟨h,_⟩<;>omega
 have hbgt:(R.beg t a).bg t=R.bg t+1:=upd_at
 have hbg:∀u,u≠t->(R.beg t a).bg u=R.bg u:=fun u hu=>upd_ne hu
 have hsl:∀s,s≠a.s.toNat->(R.beg t a).sl s=R.sl s:=fun s hs=>by
  show(if a.k=0 then upd R.sl a.s.toNat (-2) else if a.k=1 then upd R.sl a.s.toNat (-1) else R.sl) s=_
  split
  ·exact upd_ne hs
  ·split
   ·exact upd_ne hs
   ·rfl
 refine⟨fun u hu i hi b hb=>?_,fun u hu s hsu=>?_,fun u hu=>?_⟩
 ·by_cases e:u=t
  ·subst e
   rw[hbgt] at hi
   by_cases e2:i=R.bg u
   ·subst e2
    obtain rfl:=Option.some.inj (ha.symm.trans hb)
    rw[<-hA.ready hpr h ht hp ha];exact hr
   ·exact hA.rdy u hu i (by omega) b hb
  ·rw[hbg u e] at hi;exact hA.rdy u hu i hi b hb
 ·by_cases e:u=t
  ·subst e
   have hnp:∀s' j,¬Pend (pr u) (R.bg u) s' j:=fun s' j hh=>by
    have:=(hh.next ha).1.1
    omega
   have hkeep:(s≠a.s.toNat\/a.k=2)->SlR P pr (S.phs u (phOf P.T o)) (R.beg u a) u s:=fun hh=>by
    refine(hA.rel u hu s hsu).keep ?_ (by rw[hbgt,sq_succ ha];exact sq1_other hh) (fun _ b hb=>⟨hb,fun j _ _=>⟨rfl,fun hh=>absurd hh (hnp _ _)⟩⟩)
    rcases hh with hh|hh
    ·exact hsl s hh
    ·show(if a.k=0 then upd R.sl a.s.toNat (-2) else if a.k=1 then upd R.sl a.s.toNat (-1) else R.sl) s=_
     rw[if_neg (by omega),if_neg (by omega)]
   by_cases e2:s=a.s.toNat
   ·subst e2
    rcases hk with hk|hk|hk
    ·refine SlR.mk_some (u:=usz P.T a.z) (ws:=fun j=>(j:Int)) ?_ (.inl ?_)
     ·rw[hbgt,sq_succ ha]
      unfold sq1
      rw[if_pos hk]
      exact upd_at
     ·show(if a.k=0 then upd R.sl a.s.toNat (-2) else if a.k=1 then upd R.sl a.s.toNat (-1) else R.sl) a.s.toNat=_
      rw[if_pos hk,upd_at]
    ·refine SlR.mk_none ?_ ?_
     ·rw[hbgt,sq_succ ha]
      unfold sq1
      rw[if_neg (by omega),if_pos hk]
      exact upd_at
     ·show(if a.k=0 then upd R.sl a.s.toNat (-2) else if a.k=1 then upd R.sl a.s.toNat (-1) else R.sl) a.s.toNat=_
      rw[if_neg (by omega),if_pos hk,upd_at]
    ·exact hkeep (.inr hk)
   ·exact hkeep (.inl e2)
  ·refine(hA.rel u hu s hsu).keep (hsl s (fun e2=>e (by rw[<-hsu,e2,hs]))) (by rw[hbg u e]) (fun _ b hb=>⟨hb,fun j _ _=>⟨rfl,fun hh=>by rw[hbg u e];exact hh⟩⟩)
 ·show toldE (R.ev++[_]) u=_
  rw[toldE_app]
  have:toldE [(⟨t,R.bg t,false,opB R a,0,0⟩:Ev)] u=[]:=rfl
  rw[this,List.append_nil,hA.td u hu]
  by_cases e:u=t
  ·subst e
   rw[hbgt,sq_succ ha]
   unfold sq1
   rcases hk with hk|hk|hk
   ·rw[if_pos hk]
   ·rw[if_neg (by omega),if_pos hk]
   ·rw[if_neg (by omega),if_neg (by omega),if_pos hk]
  ·rw[hbg u e]
theorem toldE_two (t u:Nat) (n:Int) (ra re:Int):toldE [(⟨t,n,false,⟨-1,0,0,0⟩,0,0⟩:Ev),⟨t,n,true,⟨-1,0,0,0⟩,ra,re⟩] u=if u=t then [(re,ra)] else []:=by
 unfold toldE
 by_cases e:u=t
 ·subst e
  rw[if_pos rfl]
  simp
 ·rw[if_neg e]
  have:¬((t:Int)=(u:Int)):=by omega
  simp[this]
theorem RA.wr {P:Hp} {pr:Nat->List Ac} (hpr:PrOk P pr) (hT:Z.isTable P.T) {S:HS} {R:RS} (h:RI P pr S R) (hA:RA P pr S R) {t:Nat} (ht:t<P.nt) {a:Ac} (hp:S.ph t=.none) (ha:(pr t)[R.bg t]? =some a) (hr:readyB R a=true) (hk:a.k=3\/a.k=4):RA P pr {S with sp:=wordS S R a} (R.wrd t a (wordR S R a).1 (wordR S R a).2):=by
 obtain⟨who,hI⟩:=h.inv
 have hok:=hpr.at_ ht ha
 obtain⟨hw0,hw2⟩:=hok.w
 have hs:=hok.sn.2
 have hbgt:∀x y,(R.wrd t a x y).bg t=R.bg t+1:=fun _ _=>upd_at
 have hbg:∀x y u,u≠t->(R.wrd t a x y).bg u=R.bg u:=fun _ _ u hu=>upd_ne hu
 have hsl:∀x y,(R.wrd t a x y).sl=R.sl:=fun _ _=>by
  show(if a.k=1 then upd R.sl a.s.toNat (-1) else R.sl)=_
  rw[if_neg (by omega)]
 have hrq:=hA.ready hpr h ht hp ha
 rw[hr] at hrq
 have hrel:=hA.rel t ht _ hs
 obtain⟨u0,ws,hq⟩:∃u ws,(sq P.T (pr t) (R.bg t)).sl a.s.toNat=some (u,ws):=by
  unfold rdyQ at hrq
  rw[if_neg (by omega),if_neg (by omega)] at hrq
  obtain⟨x,hx⟩:=Option.isSome_iff_exists.1 hrq.symm
  exact⟨x.1,x.2,hx⟩
 obtain⟨h0,b,hb,rfl,hwd⟩:=(hrel.some_ hq).resolve_left (h.no2 hs hp)
 obtain⟨r1,r2,r3,r4,r5⟩:=hI.lrange hT h.al hb
 have hsq:sq P.T (pr t) (R.bg t+1)=if b.size<a.w*8+8 then⟨(sq P.T (pr t) (R.bg t)).sl,(sq P.T (pr t) (R.bg t)).td++[(7,0)]⟩ else if a.k=3 then⟨upd (sq P.T (pr t) (R.bg t)).sl a.s.toNat (some (b.size,upd ws a.w.toNat a.v)),(sq P.T (pr t) (R.bg t)).td++[(0,0)]⟩ else⟨(sq P.T (pr t) (R.bg t)).sl,(sq P.T (pr t) (R.bg t)).td++[(0,ws a.w.toNat)]⟩:=by
  rw[sq_succ ha]
  unfold sq1
  rw[if_neg (by omega),if_neg (by omega),if_neg (by omega),hq]
 have hwR:wordR S R a=if b.size<a.w*8+8 then(0,7) else if a.k=3 then(0,0) else(S.sp.h ((R.sl a.s.toNat+a.w*8)/8),0):=by
  unfold wordR
  rw[if_neg (by omega),hb]
  dsimp only
  by_cases c:b.size<a.w*8+8
  ·rw[if_pos c,if_pos c]
  ·rw[if_neg c,if_neg c,hI.lacc hT h.al hb hw0 (by omega),if_pos rfl]
 have hwS:wordS S R a=if b.size<a.w*8+8 then S.sp else if a.k=3 then S.sp.putW ((R.sl a.s.toNat+a.w*8)/8) a.v else S.sp:=by
  unfold wordS
  rw[if_neg (by omega),hb]
  dsimp only
  by_cases c:b.size<a.w*8+8
  ·rw[if_pos c,if_pos c]
  ·rw[if_neg c,if_neg c]
   unfold V.SpM.writeM
   rw[hI.lacc hT h.al hb hw0 (by omega),if_pos rfl]
 have hwn:((a.w.toNat:Nat):Int)=a.w:=Int.toNat_of_nonneg hw0
 have hfar:∀s,s≠a.s.toNat->0<R.sl s->∀b',S.lv (R.sl s)=some b'->∀j:Nat,(j:Int)*8+8<=b'.size->(wordS S R a).h ((R.sl s+(j:Int)*8)/8)=S.sp.h ((R.sl s+(j:Int)*8)/8):=by
  intro s hne hs0 b' hb' j hj
  rw[hwS]
  split
  ·rfl
  ·split
   ·show(if _ then _ else _)=_
    rw[if_neg]
    obtain⟨q1,q2,q3,q4,_⟩:=hI.lrange hT h.al hb'
    have:=hI.lapart hT hb' hb (h.dj s _ hne hs0)
    omega
   ·rfl
 have htold:∀u,u<P.nt->toldE (R.wrd t a (wordR S R a).1 (wordR S R a).2).ev u=(sq P.T (pr u) ((R.wrd t a (wordR S R a).1 (wordR S R a).2).bg u)).td:=fun u hu=>by
  show toldE (R.ev++[_,_]) u=_
  rw[toldE_app,toldE_two,hA.td u hu]
  by_cases e:u=t
  ·subst e
   rw[if_pos rfl,hbgt,hsq,hwR]
   split
   ·rfl
   ·split
    ·rfl
    ·rename_i c1 c2
     have hz:=(hwd a.w.toNat (by omega) (by rw[hwn];omega)).resolve_right (fun hh=>by have:=(hh.next ha).1.1;omega)
     rw[hwn] at hz
     rw[hz]
  ·rw[if_neg e,List.append_nil,hbg _ _ u e]
 refine⟨fun u hu i hi c hc=>?_,fun u hu s hsu=>?_,htold⟩
 ·by_cases e:u=t
  ·subst e
   rw[hbgt] at hi
   by_cases e2:i=R.bg u
   ·subst e2
    obtain rfl:=Option.some.inj (ha.symm.trans hc)
    exact hrq.symm
   ·exact hA.rdy u hu i (by omega) c hc
  ·rw[hbg _ _ u e] at hi;exact hA.rdy u hu i hi c hc
 ·have hsl':(R.wrd t a (wordR S R a).1 (wordR S R a).2).sl s=R.sl s:=congrFun (hsl _ _) s
  by_cases e:u=t
  ·subst e
   by_cases e2:s=a.s.toNat
   ·subst e2
    by_cases c:b.size<a.w*8+8
    ·refine hrel.keep hsl' (by rw[hbgt,hsq,if_pos c]) (fun _ b' hb'=>?_)
     obtain rfl:b=b':=Option.some.inj (hb.symm.trans hb')
     refine⟨hb,fun j hj hu=>⟨by show(wordS S R a).h _=_;rw[hwS,if_pos c],fun hh=>?_⟩⟩
     rw[hbgt]
     exact(hh.next ha).2.resolve_left (fun x=>by omega)
    ·by_cases c3:a.k=3
     ·refine SlR.mk_some (u:=b.size) (ws:=upd ws a.w.toNat a.v) (by rw[hbgt,hsq,if_neg c,if_pos c3];exact upd_at) (.inr ?_)
      rw[hsl']
      refine⟨h0,b,hb,rfl,fun j hj hu=>?_⟩
      show(wordS S R a).h _=_\/_
      rw[hwS,if_neg c,if_pos c3]
      show(if(R.sl a.s.toNat+(j:Int)*8)/8=(R.sl a.s.toNat+a.w*8)/8 then a.v else S.sp.h ((R.sl a.s.toNat+(j:Int)*8)/8))=_\/_
      by_cases ej:j=a.w.toNat
      ·left
       rw[if_pos (by rw[ej,hwn]),ej,upd_at]
      ·rw[if_neg (by omega),upd_ne ej,hbgt]
       rcases hwd j hj hu with q|q
       ·exact .inl q
       ·exact .inr ((q.next ha).2.resolve_left (fun x=>by omega))
     ·refine hrel.keep hsl' (by rw[hbgt,hsq,if_neg c,if_neg c3]) (fun _ b' hb'=>?_)
      obtain rfl:b=b':=Option.some.inj (hb.symm.trans hb')
      refine⟨hb,fun j hj hu=>⟨by show(wordS S R a).h _=_;rw[hwS,if_neg c,if_neg c3],fun hh=>?_⟩⟩
      exact absurd (hh.next ha).1.1 c3
   ·refine(hA.rel u hu s hsu).keep hsl' (by rw[hbgt,sq_succ ha];exact sq1_other (.inl e2)) (fun hs0 b' hb'=>⟨hb',fun j hj hu=>⟨hfar s e2 hs0 b' hb' j hu,fun hh=>absurd (hh.next ha).1.2 (fun x=>e2 x.symm)⟩⟩)
  ·have e2:s≠a.s.toNat:=fun e2=>e (by rw[<-hsu,e2,hs])
   exact(hA.rel u hu s hsu).keep hsl' (by rw[hbg _ _ u e]) (fun hs0 b' hb'=>⟨hb',fun j hj hu=>⟨hfar s e2 hs0 b' hb' j hu,fun hh=>by rw[hbg _ _ u e];exact hh⟩⟩)
theorem PStep.words {P:Hp} (hT:Z.isTable P.T) {S:HS} {who:Who} (hI:Inv P S who) (hal:Al P S) {t:Nat} {p p':Ph} {S':HS} {r:Int×Int} (h:PStep P S t p S' p' r) {y:Int} {b:Bk} (hb:S.lv y=some b) {j:Nat} (hj:(j:Int)*8+8<=b.size):S'.sp.h ((y+(j:Int)*8)/8)=S.sp.h ((y+(j:Int)*8)/8):=by
 obtain⟨r1,r2,r3,r4,r5⟩:=hI.lrange hT hal hb
 exact(h.wd.2 _ (r5 (y+(j:Int)*8) (by omega) (by omega))).2 _ (by omega)
theorem RA.step {P:Hp} (hT:Z.isTable P.T) (hna:1<=P.na) {pr:Nat->List Ac} {S:HS} {R:RS} (h:RI P pr S R) (hA:RA P pr S R) {t:Nat} (ht:t<P.nt) {p p':Ph} {S1:HS} {x er:Int} (hp:S.ph t=p) (hn:p≠ .none) (hs:PStep P S t p S1 p' (x,er)) (q:Ph):RA P pr (S1.phs t q) R:=by
 obtain⟨who,hI⟩:=h.inv
 obtain⟨b1,b2,a,b3,b4⟩:=h.md t ht (by rw[hp];exact hn)
 obtain⟨o,m1,m2,m3⟩:=b4.op
 rw[hp] at m1
 obtain⟨n1,n2⟩:=Md.step hT hna hI ht hp m1 hs
 refine⟨hA.rdy,fun u hu s hsu=>?_,hA.td⟩
 refine(hA.rel u hu s hsu).keep rfl rfl (fun h0 b hb=>⟨?_,fun j hj hu=>⟨hs.words hT hI h.al hb hu,id⟩⟩)
 rw[HS.lv_phs,n2.keep (by rw[hb];simp) (fun a e=>h.fd t a s ht (hp.trans e))]
 exact hb
theorem RA.done {P:Hp} (hT:Z.isTable P.T) (hna:1<=P.na) {pr:Nat->List Ac} (hpr:PrOk P pr) (hcl:∀t,t<P.nt->Clr (pr t)) {S:HS} {R:RS} (h:RI P pr S R) (hA:RA P pr S R) (hG:∀a k,a<P.na->k<P.T.length->GoodL (P.cl k) (S.M a k)) {t:Nat} (ht:t<P.nt) {p:Ph} {S1:HS} {x er:Int} {a:Ac} (hp:S.ph t=p) (hn:p≠ .none) (hs:PStep P S t p S1 .none (x,er)) (ha:(pr t)[R.bg t-1]? =some a) (hf:failE (R.fin t a x er).ev=false):RA P pr (S1.phs t .none) (R.fin t a x er):=by
 have hA1:=hA.step hT hna h ht hp hn hs .none
 have hI':=h.done hT hna hpr hG ht hp hn hs ha
 obtain⟨who,hI⟩:=h.inv
 obtain⟨b1,b2,a',b3,b4⟩:=h.md t ht (by rw[hp];exact hn)
 obtain rfl:a=a':=Option.some.inj (ha.symm.trans b3)
 obtain⟨o,m1,m2,m3⟩:=b4.op
 rw[hp] at m1
 obtain⟨_,n2⟩:=Md.step hT hna hI ht hp m1 hs
 have hss:=(hpr.at_ ht ha).sn.2
 refine⟨hA1.rdy,fun u hu s hsu=>?_,fun u hu=>?_⟩
 ·by_cases e:s=a.s.toNat/\a.k=0
  ·obtain⟨rfl,hk⟩:=e
   obtain rfl:t=u:=hss.symm.trans hsu
   rw[m3 hk] at n2
   generalize ho:Opr.malloc a.z=o' at n2
   have hbg:R.bg t-1+1=R.bg t:=by omega
   have hsl:(R.fin t a x er).sl a.s.toNat=x:=by
    show(if a.k=0 then upd R.sl a.s.toNat x else R.sl) a.s.toNat=x
    rw[if_pos hk,upd_at]
   cases n2 with
   |born f0 e0 q1 q2 q3=>
    rename_i z b
    injection ho with ho
    subst ho
    have hb:S1.lv x=some b:=by rw[q2];exact if_pos rfl
    refine SlR.mk_some (u:=usz P.T a.z) (ws:=fun j=>(j:Int)) ?_ (.inr ?_)
    ·show(sq P.T (pr t) (R.bg t)).sl a.s.toNat=_
     rw[<-hbg,sq_succ ha]
     unfold sq1
     rw[if_pos hk]
     exact upd_at
    ·rw[hsl]
     obtain⟨who',hI''⟩:=hI'.inv
     have:=(hI''.lrange hT hI'.al (a:=x) (b:=b) hb).1
     refine⟨by omega,b,hb,q3,fun j hj _=>.inr ?_⟩
     show Pend (pr t) (R.bg t) _ _
     rw[<-hbg]
     exact(hcl t ht).pend ha hk hj
   |fail _ e0 _ _=>
    exfalso
    have:=(failE_app (show failE (R.ev++[_])=false from hf)).2
    unfold failE at this
    have ek:(opE R t a).k=0:=by
     unfold opE opA
     rw[if_neg (by omega),if_pos hk]
    simp[ek,e0] at this
   |mid q1 _=>exact absurd rfl (q1 a.z ho.symm)
   |del _ _=>cases ho
  ·refine(hA1.rel u hu s hsu).keep ?_ rfl (fun _ b hb=>⟨hb,fun j _ _=>⟨rfl,id⟩⟩)
   show(if a.k=0 then upd R.sl a.s.toNat x else R.sl) s=_
   split
   ·rename_i hk;exact upd_ne (fun e2=>e ⟨e2,hk⟩)
   ·rfl
 ·show toldE (R.ev++[_]) u=_
  rw[toldE_app]
  have hk0:¬(opE R t a).k<0:=by
   unfold opE
   rcases b4 with ⟨h1,_⟩|⟨h1,h2,_⟩|⟨h1,_⟩
   ·rw[if_neg (by omega)];unfold opA;rw[if_pos h1];exact fun h=>by cases h
   ·rw[if_pos h1];omega
   ·rw[if_neg (by omega)];unfold opA;rw[if_neg (by omega),if_neg (by omega),if_pos h1];exact fun h=>by cases h
  have:toldE [(⟨t,(R.bg t:Int)-1,true,opE R t a,x,er⟩:Ev)] u=[]:=by
   unfold toldE
   simp[hk0]
  rw[this,List.append_nil]
  exact hA.td u hu
theorem RA.turn {P:Hp} (hT:Z.isTable P.T) (hna:1<=P.na) {pr:Nat->List Ac} (hpr:PrOk P pr) (hcl:∀t,t<P.nt->Clr (pr t)) {S S':HS} {R R':RS} {mv:Bool} (h:RI P pr S R) (hA:failE R.ev=false->RA P pr S R) (hG:∀a k,a<P.na->k<P.T.length->GoodL (P.cl k) (S.M a k)) {t:Nat} (ht:t<P.nt) (hs:TStep P pr t S R S' R' mv):failE R'.ev=false->RA P pr S' R':=by
 intro hf
 cases hs with
 |idle hp _=>exact⟨(hA hf).rdy,(hA hf).rel,(hA hf).td⟩
 |op hp ha hr ho=>exact(hA (failE_app (show failE (R.ev++[_])=false from hf)).1).op hpr h ht hp ha hr ho
 |fr0 hp ha hr hk h0=>
  rename_i a
  exfalso
  have hA:=hA (failE_app (show failE (R.ev++[_,_])=false from hf)).1
  have hrel:=hA.rel t ht _ (hpr.at_ ht ha).sn.2
  cases hq:(sq P.T (pr t) (R.bg t)).sl a.s.toNat with
  |none=>have:=hrel.none_ hq;omega
  |some y=>
   obtain⟨u,ws⟩:=y
   rcases hrel.some_ hq with c|c<;>omega
 |wr hp ha hr hk=>exact(hA (failE_app (show failE (R.ev++[_,_])=false from hf)).1).wr hpr hT h ht hp ha hr hk
 |step hp hn hs hn'=>exact(hA hf).step hT hna h ht hp hn hs _
 |done hp hn hs ha=>exact(hA (failE_app (show failE (R.ev++[_])=false from hf)).1).done hT hna hpr hcl h hG ht hp hn hs ha hf
def Ended (P:Hp) (pr:Nat->List Ac) (S:HS) (R:RS):Prop:=∀t,t<P.nt->S.ph t=.none/\∀a,(pr t)[R.bg t]? =some a->readyB R a=false
section
variable {P P':Hp} {pr:Nat->List Ac} {S S':HS} {R R':RS}
theorem end_le (hpr:PrOk P pr) (hT:P'.T=P.T) (h:RI P pr S R) (hA:RA P pr S R) (hE:Ended P pr S R) (h':RI P' pr S' R') (hA':RA P' pr S' R') {t:Nat} (ht:t<P.nt) (ht':t<P'.nt):R'.bg t<=R.bg t:=by
 rcases Nat.lt_or_ge (R.bg t) (R'.bg t) with c|c
 ·exfalso
  have hl:=h'.bg t ht'
  obtain⟨a,ha⟩:∃a,(pr t)[R.bg t]? =some a:=⟨_,List.getElem?_eq_getElem (show R.bg t<(pr t).length by omega)⟩
  have h1:=hA'.rdy t ht' _ c a ha
  rw[hT,<-hA.ready hpr h ht (hE t ht).1 ha,(hE t ht).2 a ha] at h1
  cases h1
 ·exact c
theorem end_slot (hpr:PrOk P pr) (h:RI P pr S R) (hA:RA P pr S R) (hE:Ended P pr S R) {s:Nat} (hs:s/5<P.nt):
 ((sq P.T (pr (s/5)) (R.bg (s/5))).sl s=none/\R.sl s= -1)\/∃u ws b,(sq P.T (pr (s/5)) (R.bg (s/5))).sl s=some (u,ws)/\0<R.sl s/\S.lv (R.sl s)=some b/\b.size=u/\((8:Int)<=u->S.sp.h (R.sl s/8)=ws 0):=by
 have hrel:=hA.rel _ hs s rfl
 cases hq:(sq P.T (pr (s/5)) (R.bg (s/5))).sl s with
 |none=>exact .inl ⟨rfl,hrel.none_ hq⟩
 |some x=>
  obtain⟨u,ws⟩:=x
  obtain⟨h1,b,h2,h3,h4⟩:=(hrel.some_ hq).resolve_left (h.no2 rfl (hE _ hs).1)
  refine .inr ⟨u,ws,b,rfl,h1,h2,h3,fun h8=>?_⟩
  have:=(h4 0 (by decide) (by omega)).resolve_right (fun hh=>by
   obtain⟨a,a1,a2,a3⟩:=hh.here
   have:=(hE _ hs).2 a a1
   unfold readyB at this
   rw[if_neg (by omega),if_neg (by omega),a3] at this
   have:=of_decide_eq_false this
   omega)
  simpa using this
end
end Go.Proofs.YtcidjimefnhacaaGreatDoor
namespace Go.Proofs.YtcidjimefnhacaaGreatDoor
open Go.RowKit
def hasR (M:List Sp):Bool:=(one7 M).1.2
theorem bestTo_all {M:List Sp} (k:Nat) (h:bestTo M k=none) (j:Nat) (hj:j<k):¬(sAt M j).many<(sAt M j).st.length:=by
 induction k with
 |zero=>omega
 |succ k ih=>
  rw[bestTo] at h
  cases h1:bestTo M k with
  |none=>
   rw[h1] at h
   simp only at h
   split at h
   ·cases h
   ·rename_i h2
    by_cases e:j=k
    ·rw[e];exact h2
    ·exact ih h1 (by omega)
  |some b=>
   rw[h1] at h
   simp only at h
   split at h<;>cases h
theorem hasR_of {M:List Sp} {j:Nat} (hj:j<M.length) (h:(sAt M j).many<(sAt M j).st.length):hasR M=true:=by
 unfold hasR
 cases hb:(one7 M).1.2 with
 |true=>rfl
 |false=>exact absurd h (bestTo_all _ (one7_none hb).1 j hj)
theorem addM_room {c:Cl} (hc:c.ok) (M:List Sp) (x:Int):hasR (addM M c x)=true\/(addM M c x=M/\addE M c x≠0):=by
 by_cases h:addE M c x=0
 ·left
  have hm:Sp.fresh x c.size c.pages c.batch∈addM M c x:=by unfold addM;rw[if_pos h];simp
  obtain⟨j,hj,he⟩:=List.getElem_of_mem hm
  refine hasR_of hj ?_
  have:sAt (addM M c x) j=Sp.fresh x c.size c.pages c.batch:=by rw[sAt,List.getD_eq_getElem?_getD,List.getElem?_eq_getElem hj];exact he
  rw[this]
  obtain⟨o1,o2,o3,o4,o5,o6,_⟩:=hc
  show(0:Int)<((List.replicate _ _).length:Int)
  rw[List.length_replicate]
  have:1<=c.pages*256/c.size:=(Int.le_ediv_iff_mul_le (by omega)).2 (by omega)
  omega
 ·right
  exact⟨by unfold addM;rw[if_neg h],h⟩
theorem takes_room {M:List Sp} (h:hasR M=true) {n:Nat} (hn:0<n):0<(takesTo M n).1.length:=by
 induction n with
 |zero=>omega
 |succ n ih=>
  rw[takesTo]
  split
  ·rw[List.length_append];simp
  ·rename_i h2
   by_cases e:n=0
   ·subst e;exact absurd h h2
   ·exact ih (by omega)
def phiV (P:Hp) (S:HS) (t:Nat):Ph->Nat
 | .none=>0
 | .take _=>12
 | .transfer _ _=>11
 | .central k _=>if hasR (S.M (t%P.na) k) then 8 else 10
 | .grow _ _=>9
 | .fill=>1
 | .large _=>1
 | .find _=>289
 | .put _ _=>288
 | .back=>7*(S.H t).length
 | .give _ _=>1
 | .drain=>281
def phi (P:Hp) (S:HS) (t:Nat):Nat:=phiV P S t (S.ph t)
theorem phi_at {P:Hp} {S:HS} {t:Nat} {p:Ph} (h:S.ph t=p):phi P S t=phiV P S t p:=by subst h;rfl
theorem phi_le2 {P:Hp} {S S':HS} {u:Nat} (h1:S'.ph u=S.ph u) (h2:S'.H u=S.H u):phi P S' u<=phi P S u+2:=by
 unfold phi
 rw[h1]
 cases S.ph u with
 |central k n=>dsimp only[phiV];split<;>split<;>omega
 |back=>dsimp only[phiV];rw[h2];omega
 |_=>exact Nat.le_add_right _ _
theorem phi_le0 {P:Hp} {S S':HS} {u:Nat} (h1:S'.ph u=S.ph u) (h2:S'.H u=S.H u) (h3:∀k,hasR (S.M (u%P.na) k)=true->hasR (S'.M (u%P.na) k)=true):phi P S' u<=phi P S u:=by
 unfold phi
 rw[h1]
 cases S.ph u with
 |back=>dsimp only[phiV];rw[h2];exact Nat.le_refl _
 |central k n=>
  dsimp only[phiV]
  by_cases c:hasR (S.M (u%P.na) k)=true
  ·rw[if_pos c,if_pos (h3 k c)];exact Nat.le_refl _
  ·rw[if_neg c];split<;>omega
 |_=>exact Nat.le_refl _
theorem sumN_up {f g:Nat->Nat} {t c:Nat} (n:Nat) (ht:t<n) (h:∀i,i<n->i≠t->g i<=f i+c):sumN g n+f t+c<=sumN f n+g t+n*c:=by
 induction n with
 |zero=>omega
 |succ n ih=>
  rw[sumN,sumN,Nat.succ_mul]
  by_cases e:t=n
  ·subst e
   have:sumN g t<=sumN f t+t*c:=by
    clear ih
    have:∀m,m<=t->sumN g m<=sumN f m+m*c:=by
     intro m
     induction m with
     |zero=>intro _;simp[sumN]
     |succ m ihm=>
      intro hm
      have:=ihm (by omega)
      have:=h m (by omega) (by omega)
      rw[sumN,sumN,Nat.succ_mul]
      omega
    exact this t (Nat.le_refl _)
   omega
  ·have:=ih (by omega) (fun i hi hne=>h i (by omega) hne)
   have:=h n (by omega) (fun x=>e x.symm)
   omega
theorem phi_ib {P:Hp} {S:HS} {t:Nat} {L:List HB} (h:S.ph t=if L=[] then .none else .back) (hH:S.H t=L):phi P S t<=7*L.length:=by
 rw[phi_at h]
 split
 ·exact Nat.zero_le _
 ·dsimp only[phiV];rw[hH];exact Nat.le_refl _
theorem upd2_room {M:Nat->Nat->List Sp} {a k:Nat} {x:List Sp} (h:hasR (M a k)=true->hasR x=true) (b j:Nat) (hb:hasR (M b j)=true):hasR (upd2 M a k x b j)=true:=by
 by_cases e:b=a/\j=k
 ·obtain⟨rfl,rfl⟩:=e;rw[upd2_at];exact h hb
 ·rw[upd2_ne e];exact hb
theorem PStep.phi {P:Hp} (hT:Z.isTable P.T) (hna:1<=P.na) (hnt:P.nt<=4) {S:HS} {who:Who} (hI:Inv P S who) {t:Nat} (ht:t<P.nt) {p p':Ph} {S':HS} {r:Int×Int} (hp:S.ph t=p) (hs:PStep P S t p S' p' r):sumN (phi P (S'.phs t p')) P.nt+1<=sumN (phi P S) P.nt:=by
 obtain⟨o1,o2⟩:=hs.oth
 have hph:=hI.phs t ht
 rw[hp] at hph
 have hphn:∀u,u≠t->(S'.phs t p').ph u=S.ph u:=fun u hu=>by show upd S'.ph t p' u=_;rw[upd_ne hu,o1]
 have hpht:(S'.phs t p').ph t=p':=upd_at
 have hphi:Go.Proofs.YtcidjimefnhacaaGreatDoor.phi P S t=phiV P S t p:=phi_at hp
 have kok:∀k,k<P.T.length->(P.cl k).ok:=fun k hk=>(hT.2.2 k hk).1
 have key0:(∀a k,hasR (S.M a k)=true->hasR (S'.M a k)=true)->Go.Proofs.YtcidjimefnhacaaGreatDoor.phi P (S'.phs t p') t+1<=Go.Proofs.YtcidjimefnhacaaGreatDoor.phi P S t->sumN (Go.Proofs.YtcidjimefnhacaaGreatDoor.phi P (S'.phs t p')) P.nt+1<=sumN (Go.Proofs.YtcidjimefnhacaaGreatDoor.phi P S) P.nt:=fun hM hd=>by
  have:=sumN_up (f:=Go.Proofs.YtcidjimefnhacaaGreatDoor.phi P S) (g:=Go.Proofs.YtcidjimefnhacaaGreatDoor.phi P (S'.phs t p')) (t:=t) (c:=0) P.nt ht (fun i _ hi=>phi_le0 (hphn i hi) (o2 i hi) (fun k hk=>hM _ k hk))
  omega
 have key2:Go.Proofs.YtcidjimefnhacaaGreatDoor.phi P (S'.phs t p') t+7<=Go.Proofs.YtcidjimefnhacaaGreatDoor.phi P S t->sumN (Go.Proofs.YtcidjimefnhacaaGreatDoor.phi P (S'.phs t p')) P.nt+1<=sumN (Go.Proofs.YtcidjimefnhacaaGreatDoor.phi P S) P.nt:=fun hd=>by
  have:=sumN_up (f:=Go.Proofs.YtcidjimefnhacaaGreatDoor.phi P S) (g:=Go.Proofs.YtcidjimefnhacaaGreatDoor.phi P (S'.phs t p')) (t:=t) (c:=2) P.nt ht (fun i _ hi=>phi_le2 (hphn i hi) (o2 i hi))
  omega
 cases hs with
 |takeHit h1 h2=>exact key0 (fun _ _ h=>h) (by rw[phi_at hpht,hphi];simp[phiV])
 |takeMiss h1 h2 h3=>exact key0 (fun _ _ h=>h) (by rw[phi_at hpht,hphi];simp[phiV])
 |moveHit h1=>exact key0 (fun _ _ h=>h) (by rw[phi_at hpht,hphi];simp[phiV])
 |moveMiss=>exact key0 (fun _ _ h=>h) (by rw[phi_at hpht,hphi];dsimp only[phiV];split<;>omega)
 |centHit h1=>exact key2 (by rw[phi_at hpht,hphi];dsimp only[phiV];split<;>omega)
 |centMiss h1=>
  rename_i k n
  have hM:(takesTo (S.M (t%P.na) k) n.toNat).2=S.M (t%P.na) k:=takesTo_nil _ h1
  have hr:hasR (S.M (t%P.na) k)≠true:=fun hh=>by
   have:=takes_room hh (n:=n.toNat) (by have:=hph.2.1;omega)
   omega
  refine key0 (fun a j h=>upd2_room (fun h=>by rw[hM];exact h) a j h) ?_
  rw[phi_at hpht,hphi]
  dsimp only[phiV]
  rw[if_neg hr]
  omega
 |growNo h1 h2=>
  rename_i k n er
  refine key0 (fun a j h=>?_) (by rw[phi_at hpht,hphi];simp[phiV])
  obtain⟨_,_,_,_,_,_,e|⟨o,_,e⟩⟩:=h1.same
  ·rw[e];exact h
  ·rw[e]
   exact upd2_room (fun h=>by rcases addM_room (kok k hph.1) (S.M (t%P.na) k) o with c|c;exact c;rw[c.1];exact h) a j h
 |growYes h1=>
  rename_i k n
  have hM:∃o:Nat,0=addE (S.M (t%P.na) k) (P.cl k) o/\S'.M=upd2 S.M (t%P.na) k (addM (S.M (t%P.na) k) (P.cl k) o):=by
   rcases h1 with ⟨e,_⟩|⟨S1,o,B2,L2,m,_,h,he,_,_,rfl⟩
   ·cases e
   ·exact⟨o,he,rfl⟩
  obtain⟨o,e0,e⟩:=hM
  have hroom:=(addM_room (kok k hph.1) (S.M (t%P.na) k) o).resolve_right (fun c=>c.2 e0.symm)
  refine key0 (fun a j h=>by rw[e];exact upd2_room (fun _=>hroom) a j h) ?_
  rw[phi_at hpht,hphi]
  dsimp only[phiV]
  rw[if_pos (by show hasR (S'.M _ _)=true;rw[e,upd2_at];exact hroom)]
  omega
 |fill h1 h2 h3 h4=>exact key0 (fun _ _ h=>h) (by rw[phi_at hpht,hphi];simp[phiV])
 |largeNo h1=>obtain⟨e,_⟩:=h1.same;exact key0 (fun _ _ h=>by rw[e];exact h) (by rw[phi_at hpht,hphi];simp[phiV])
 |largeYes h1 h2=>
  obtain⟨e,_⟩:=h1.same
  exact key0 (fun _ _ h=>by show hasR (HS.M _ _ _)=true;rw[e];exact h) (by rw[phi_at hpht,hphi];simp[phiV])
 |find h1 h2=>
  rcases h2 with ⟨_,rfl,rfl⟩|⟨_,rfl,_,_,rfl⟩
  ·exact key0 (fun _ _ h=>h) (by rw[phi_at hpht,hphi];simp[phiV])
  ·exact key0 (fun _ _ h=>h) (by rw[phi_at hpht,hphi];simp[phiV])
 |put h1 h2 h3=>
  rename_i k a C' v L
  refine key0 (fun _ _ h=>h) ?_
  have:=phi_ib (P:=P) hpht (show upd S.H t L t=L from upd_at)
  rw[hphi]
  dsimp only[phiV]
  omega
 |back h1 h2=>
  rename_i b L v
  refine key2 ?_
  have:(S'.phs t (if L=[] then .none else .back)).H t=L:=by
   rcases h2 with ⟨_,rfl⟩|⟨_,_,_,_,_,rfl⟩<;>exact upd_at
  have:=phi_ib (P:=P) hpht this
  rw[hphi]
  dsimp only[phiV]
  rw[h1,List.length_cons]
  omega
 |giveNo h1=>exact key0 (fun _ _ h=>h) (by rw[phi_at hpht,hphi];simp[phiV])
 |giveYes h1 h2 h3=>exact key0 (fun _ _ h=>h) (by rw[phi_at hpht,hphi];simp[phiV])
 |drain h1 h2 h3=>
  rename_i C' v L
  refine key0 (fun _ _ h=>h) ?_
  have:=phi_ib (P:=P) hpht (show upd S.H t L t=L from upd_at)
  rw[hphi]
  dsimp only[phiV]
  omega
def cost (a:Ac):Nat:=if a.k=0 then 13 else if a.k=1 then 290 else if a.k=2 then 282 else 1
def costs (l:List Ac):Nat:=(l.map cost).sum
def left (P:Hp) (pr:Nat->List Ac) (S:HS) (R:RS):Nat:=sumN (fun t=>phi P S t+costs ((pr t).drop (R.bg t))) P.nt
theorem cost_pos (a:Ac):1<=cost a:=by unfold cost;repeat (first|decide|split)
theorem costs_drop {l:List Ac} {k:Nat} {a:Ac} (h:l[k]? =some a):costs (l.drop k)=cost a+costs (l.drop (k+1)):=by
 obtain⟨hk,rfl⟩:=List.getElem?_eq_some_iff.1 h
 rw[List.drop_eq_getElem_cons hk]
 unfold costs
 rw[List.map_cons,List.sum_cons]
def opT:Opr->Nat
 | .malloc _=>12
 | .free _=>289
 | .flush=>281
theorem phi_first (P:Hp) (S:HS) {t:Nat} {o:Opr} (h:S.ph t=phOf P.T o):phi P S t<=opT o:=by
 cases o with
 |malloc z=>
  unfold phOf at h
  dsimp only at h
  split at h
  ·rw[phi_at h];simp[phiV,opT]
  ·rw[phi_at h];simp[phiV,opT]
 |free a=>rw[phi_at h];exact Nat.le_refl _
 |flush=>rw[phi_at h];exact Nat.le_refl _
theorem sumN_add (f g:Nat->Nat) (n:Nat):sumN (fun i=>f i+g i) n=sumN f n+sumN g n:=by
 induction n with
 |zero=>rfl
 |succ n ih=>simp only[sumN];rw[ih];omega
theorem left_turn {P:Hp} (hT:Z.isTable P.T) (hna:1<=P.na) (hnt:P.nt<=4) {pr:Nat->List Ac} {S S':HS} {R R':RS} {mv:Bool} (h:RI P pr S R) {t:Nat} (ht:t<P.nt) (hs:TStep P pr t S R S' R' mv):left P pr S' R'+(if mv then 1 else 0)<=left P pr S R:=by
 obtain⟨who,hI⟩:=h.inv
 have hwd:∀{m:V.SpM} {a:Ac} {x y:Int},S.ph t=.none->(pr t)[R.bg t]? =some a->left P pr {S with sp:=m} (R.wrd t a x y)+1<=left P pr S R:=by
  intro m a x y hp ha
  have hb:(R.wrd t a x y).bg t=R.bg t+1:=upd_at
  have:=sumN_at (f:=fun u=>phi P S u+costs ((pr u).drop (R.bg u))) (g:=fun u=>phi P {S with sp:=m} u+costs ((pr u).drop ((R.wrd t a x y).bg u))) (t:=t) P.nt ht (fun i _ hi=>by
   show _+costs ((pr i).drop (upd R.bg t (R.bg t+1) i))=_
   rw[upd_ne hi];rfl)
  rw[hb,costs_drop ha] at this
  have e:phi P {S with sp:=m} t=phi P S t:=rfl
  have:=cost_pos a
  unfold left
  omega
 cases hs with
 |idle hp _=>exact Nat.le_refl _
 |op hp ha hr ho=>
  rename_i a o
  rw[if_pos rfl]
  have hb:(R.beg t a).bg t=R.bg t+1:=upd_at
  have hpt:(S.phs t (phOf P.T o)).ph t=phOf P.T o:=upd_at
  have:=sumN_at (f:=fun u=>phi P S u+costs ((pr u).drop (R.bg u))) (g:=fun u=>phi P (S.phs t (phOf P.T o)) u+costs ((pr u).drop ((R.beg t a).bg u))) (t:=t) P.nt ht (fun i _ hi=>by
   show phi P (S.phs t (phOf P.T o)) i+costs ((pr i).drop (upd R.bg t (R.bg t+1) i))=_
   rw[upd_ne hi]
   have:phi P (S.phs t (phOf P.T o)) i=phi P S i:=by
    unfold phi
    rw[show(S.phs t (phOf P.T o)).ph i=S.ph i from upd_ne hi];rfl
   rw[this])
  rw[hb,costs_drop ha,phi_at hp] at this
  have hf:=phi_first P _ hpt
  have hc:1+opT o<=cost a:=by
   unfold cost
   rcases ho with ⟨h1,rfl⟩|⟨h1,_,rfl⟩|⟨h1,rfl⟩
   ·rw[if_pos h1];exact Nat.le_refl _
   ·rw[if_neg (by omega),if_pos h1];exact Nat.le_refl _
   ·rw[if_neg (by omega),if_neg (by omega),if_pos h1];exact Nat.le_refl _
  unfold left
  have e0:phiV P S t .none=0:=rfl
  omega
 |fr0 hp ha hr hk h0=>exact hwd (m:=S.sp) hp ha
 |wr hp ha hr hk=>exact hwd hp ha
 |step hp hn hs hn'=>
  rw[if_pos rfl]
  have:=hs.phi hT hna hnt hI ht hp
  unfold left
  rw[sumN_add,sumN_add]
  omega
 |done hp hn hs ha=>
  rw[if_pos rfl]
  have:=hs.phi hT hna hnt hI ht hp
  unfold left
  rw[sumN_add,sumN_add]
  show _+sumN (fun u=>costs ((pr u).drop (R.bg u))) P.nt+1<=_
  omega
end Go.Proofs.YtcidjimefnhacaaGreatDoor
