/- TopSchedules, a part of the proof: Pe, Pf, Pg. -/
import Derived.Test.YtcidjimefnhacaaGreatDoorM31
set_option linter.unusedVariables false
set_option linter.unusedSimpArgs false
namespace Go.Proofs.YtcidjimefnhacaaGreatDoor
open Go.RowKit
theorem hok_hnd {n:Nat} {H:Nat->List HB} {m:Nat} (h:∀u,u<m->∀b∈H u,b.ok n) {t:Nat} {L:List HB} (hL:∀b∈L,b.ok n):∀u,u<m->∀b∈upd H t L u,b.ok n:=fun u hu b hb=>by
 by_cases e:u=t
 ·subst e;rw[upd_at] at hb;exact hL b hb
 ·rw[upd_ne e] at hb;exact h u hu b hb
def tk2 (tk:Hd->Int->Int->Nat) (h1 h2:Hd) (f1 f2:Int->Int->Nat):Hd->Int->Int->Nat:=fun h=>if h=h1 then f1 else if h=h2 then f2 else tk h
theorem tk2_1 {tk:Hd->Int->Int->Nat} {h1 h2:Hd} {f1 f2:Int->Int->Nat}:tk2 tk h1 h2 f1 f2 h1=f1:=if_pos rfl
theorem tk2_2 {tk:Hd->Int->Int->Nat} {h1 h2:Hd} {f1 f2:Int->Int->Nat} (hne:h2≠h1):tk2 tk h1 h2 f1 f2 h2=f2:=by unfold tk2;rw[if_neg hne,if_pos rfl]
theorem tk2_0 {tk:Hd->Int->Int->Nat} {h1 h2 h:Hd} {f1 f2:Int->Int->Nat} (n1:h≠h1) (n2:h≠h2):tk2 tk h1 h2 f1 f2 h=tk h:=by unfold tk2;rw[if_neg n1,if_neg n2]
theorem Kp.hand2 {T:List Z.Cl} (hT:Z.isTable T) {who:Who} {tk:Hd->Int->Int->Nat} (hk:Kp T who tk) {h1 h2:Hd} (hne:h1≠h2) (d f1 f2:Int->Int->Nat) (e1:∀k a,f1 k a+d k a<=tk h1 k a) (e2:∀k a,f2 k a<=tk h2 k a+d k a):Kp T (ren (Go.Proofs.YtcidjimefnhacaaGreatDoor.hand h1 h2 d) who) (tk2 tk h1 h2 f1 f2):=
 hk.hand hT hne d (fun k a=>by rw[tk2_1];exact e1 k a) (fun k a=>by rw[tk2_2 hne.symm];exact e2 k a) (fun h n1 n2 k a=>by rw[tk2_0 n1 n2];exact Nat.le_refl _)
theorem Inv.fill {P:Hp} (hT:Z.isTable P.T) {S:HS} {who:Who} (h:Inv P S who) {t:Nat} (ht:t<P.nt) {b:HB} {x:Int} {xs:List Int} {C':Int->Option CE} {ar:Nat} (hb:S.H t=[b]) (hbo:b.o=x::xs) (htk:∀j y,ctok C' j y<=ctok (S.C t) j y+(if j=(b.k:Int) then xs.count y else 0)):
 ∃who',Inv P (HS.phs {(S.hnd t (.slice none 0 0) []).cac t C' with lv:=lvPut S.lv x ⟨(Z.cAt P.T b.k).s,b.k,ar⟩} t .none) who':=by
 have hbk:=h.hok t ht b (by rw[hb];simp)
 have hx:htok (S.H t) b.k x≠0:=by rw[hb];simp[htok,hbo]
 have hn:=h.notLive hT (hd:=.han t) (by simp) (k:=b.k) (a:=x) (by rw[tk_han ht];omega)
 have k1:=h.tk
 have k2:Kp P.T _ _:=Kp.hand2 hT k1 (h1:=.han t) (h2:=.cac t) (by simp) (fun j y=>if j=(b.k:Int) then xs.count y else 0) (one1 b.k x) (fun j y=>ctok (S.C t) j y+(if j=(b.k:Int) then xs.count y else 0)) (fun j y=>by
  rw[tk_han ht,hb]
  simp only[htok,hbo,Nat.add_zero,List.count_cons,one1]
  by_cases e:j=(b.k:Int)
  ·rw[if_pos e,if_pos e.symm]
   by_cases e2:y=x
   ·rw[if_pos ⟨e,e2⟩,e2];simp;omega
   ·rw[if_neg (fun h=>e2 h.2)];omega
  ·rw[if_neg (fun h=>e h.1),if_neg e];omega) (fun j y=>by rw[tk_cac ht];exact Nat.le_refl _)
 have k3:=Kp.hand hT k2 (h1:=.han t) (h2:=.liv) (by simp) (one1 b.k x) (tk':=tkH P (HS.phs {(S.hnd t (.slice none 0 0) []).cac t C' with lv:=lvPut S.lv x ⟨(Z.cAt P.T b.k).s,b.k,ar⟩} t .none)) (fun j y=>by
  rw[tk2_1,tk_han ht]
  show htok (upd S.H t [] t) j y+_<=_
  rw[upd_at]
  simp[htok]) (fun j y=>by
  rw[tk2_0 (by simp) (by simp)]
  show ltok (lvPut S.lv x _) j y<=ltok S.lv j y+one1 b.k x j y
  rw[ltok_put hn]
  unfold one1
  by_cases e:y=x/\(b.k:Int)=j/\0<=j
  ·rw[if_pos e,if_pos ⟨e.2.1.symm,e.1⟩];exact Nat.le_refl _
  ·rw[if_neg e];omega) (fun hd n1 n2 j y=>by
  by_cases e:hd=.cac t
  ·subst e
   rw[tk2_2 (by simp),tk_cac ht]
   show ctok (upd S.C t C' t) j y<=_
   rw[upd_at]
   exact htk j y
  ·rw[tk2_0 n1 e]
   cases hd with
   |liv=>exact absurd rfl n2
   |cac u=>
    show(if u<P.nt then ctok (upd S.C t C' u) j y else 0)<=if u<P.nt then ctok (S.C u) j y else 0
    rw[upd_ne (ne_cac e)]
    exact Nat.le_refl _
   |han u=>
    show(if u<P.nt then htok (upd S.H t [] u) j y else 0)<=if u<P.nt then htok (S.H u) j y else 0
    rw[upd_ne (ne_han n1)]
    exact Nat.le_refl _
   |tra a=>exact Nat.le_refl _)
 refine⟨_,h.tokStep (f:=fun o=>hand (.han t) .liv (one1 b.k x) (hand (.han t) (.cac t) (fun j y=>if j=(b.k:Int) then xs.count y else 0) o)) ((TokRen.hand _ _ _).comp (TokRen.hand _ _ _)) (t:=t) (p':=.none) rfl ⟨rfl,rfl,rfl,rfl,rfl⟩ k3 ((h.l.put hbk.k).ren ((TokRen.hand _ _ _).comp (TokRen.hand _ _ _))) h.trb (hok_hnd h.hok (by simp)) upd_at (fun u hu=>upd_ne hu) (fun u x _ _ _ hx=>lvPut_some hx) (by simp)⟩
theorem Inv.cacHan {P:Hp} (hT:Z.isTable P.T) {S:HS} {who:Who} (h:Inv P S who) {t:Nat} (ht:t<P.nt) (hH:S.H t=[]) {C':Int->Option CE} {v:Value} {L:List HB} (htk:∀k a,ctok C' k a+htok L k a=ctok (S.C t) k a) (hL:∀b∈L,b.ok P.T.length):
 ∃who',Inv P (HS.phs ((S.cac t C').hnd t v L) t (if L=[] then .none else .back)) who':=by
 refine⟨_,h.tokStep (TokRen.hand (.cac t) (.han t) (htok L)) (t:=t) (p':=if L=[] then .none else .back) rfl ⟨rfl,rfl,rfl,rfl,rfl⟩ (Kp.hand hT h.tk (by simp) (htok L) (fun j y=>?_) (fun j y=>?_) (tk_e3 (fun u n1 _=>upd_ne (ne_cac n1)) (fun u _ n2=>upd_ne (ne_han n2)) (fun _ _ _ _=>rfl) (fun _ _=>rfl))) (h.l.ren (TokRen.hand _ _ _)) h.trb (hok_hnd h.hok hL) ?_ (fun u hu=>upd_ne hu) (fun u x _ _ _ hx=>hx) (fun a=>by split<;>simp)⟩
 ·rw[tk_cac ht,tk_cac ht]
  show ctok (upd S.C t C' t) j y+_<=_
  rw[upd_at]
  exact Nat.le_of_eq (htk j y)
 ·rw[tk_han ht,tk_han ht]
  show htok (upd S.H t L t) j y<=_
  rw[upd_at]
  omega
 ·by_cases e:L=[]
  ·rw[if_pos e];show upd S.H t L t=[];rw[upd_at];exact e
  ·rw[if_neg e];show upd S.H t L t≠ [];rw[upd_at];exact e
theorem Inv.put {P:Hp} (hT:Z.isTable P.T) {S:HS} {who:Who} (h:Inv P S who) {t k:Nat} {a:Int} (ht:t<P.nt) (hp:S.ph t=.put k a) {C':Int->Option CE} {v:Value} {L:List HB} (htk:∀j y,ctok C' j y+htok L j y<=ctok (S.C t) j y+one1 k a j y) (hL:∀b∈L,b.ok P.T.length):
 ∃who',Inv P (HS.phs ((S.cac t C').hnd t v L) t (if L=[] then .none else .back)) who':=by
 obtain⟨hk,v0,hH⟩:k<P.T.length/\∃v,S.H t=[⟨k,v,[a]⟩]:=by have:=h.phs t ht;rw[hp] at this;exact this
 have k2:Kp P.T _ _:=Kp.hand2 hT h.tk (h1:=.han t) (h2:=.cac t) (by simp) (one1 k a) (fun _ _=>0) (fun j y=>ctok (S.C t) j y+one1 k a j y) (fun j y=>by
  rw[tk_han ht,hH,htok_one,one1_count]
  omega) (fun j y=>by rw[tk_cac ht];exact Nat.le_refl _)
 have k3:=Kp.hand hT k2 (h1:=.cac t) (h2:=.han t) (by simp) (htok L) (tk':=tkH P (HS.phs ((S.cac t C').hnd t v L) t (if L=[] then .none else .back))) (fun j y=>by
  rw[tk2_2 (by simp),tk_cac ht]
  show ctok (upd S.C t C' t) j y+_<=_
  rw[upd_at]
  exact htk j y) (fun j y=>by
  rw[tk2_1,tk_han ht]
  show htok (upd S.H t L t) j y<=_
  rw[upd_at]
  omega) (fun hd n1 n2 j y=>by
  rw[tk2_0 n2 n1]
  exact tk_e3 (S:=S) (S':=HS.phs ((S.cac t C').hnd t v L) t (if L=[] then .none else .back)) (h1:=.cac t) (h2:=.han t) (fun u n1 _=>upd_ne (ne_cac n1)) (fun u _ n2=>upd_ne (ne_han n2)) (fun _ _ _ _=>rfl) (fun _ _=>rfl) hd n1 n2 j y)
 refine⟨_,h.tokStep (f:=fun o=>hand (.cac t) (.han t) (htok L) (hand (.han t) (.cac t) (one1 k a) o)) ((TokRen.hand _ _ _).comp (TokRen.hand _ _ _)) (t:=t) (p':=if L=[] then .none else .back) rfl ⟨rfl,rfl,rfl,rfl,rfl⟩ k3 (h.l.ren ((TokRen.hand _ _ _).comp (TokRen.hand _ _ _))) h.trb (hok_hnd h.hok hL) ?_ (fun u hu=>upd_ne hu) (fun u x _ _ _ hx=>hx) (fun a=>by split<;>simp)⟩
 by_cases e:L=[]
 ·rw[if_pos e];show upd S.H t L t=[];rw[upd_at];exact e
 ·rw[if_neg e];show upd S.H t L t≠ [];rw[upd_at];exact e
theorem Inv.findS {P:Hp} (hT:Z.isTable P.T) {S:HS} {who:Who} (h:Inv P S who) {t:Nat} {a:Int} (ht:t<P.nt) (hp:S.ph t=.find a) {b:Bk} (hb:S.lv a=some b) (hc:0<=b.cls) {v v':Value}:
 ∃who',Inv P (HS.phs (({S with lv:=lvDel S.lv a}:HS).hnd t v' (S.H t++[⟨b.cls.toNat,v,[a]⟩])) t (.put b.cls.toNat a)) who':=by
 obtain⟨hH,_⟩:S.H t=[]/\S.lv a≠none:=by have:=h.phs t ht;rw[hp] at this;exact this
 obtain⟨s1,s2⟩:=h.l.sml a b hb hc
 have hck:((b.cls.toNat:Nat):Int)=b.cls:=Int.toNat_of_nonneg hc
 rw[hH,List.nil_append]
 refine⟨_,h.tokStep (TokRen.hand .liv (.han t) (one1 b.cls a)) (t:=t) (p':=.put b.cls.toNat a) rfl ⟨rfl,rfl,rfl,rfl,rfl⟩ (Kp.hand hT h.tk (by simp) (one1 b.cls a) (fun j y=>?_) (fun j y=>?_) (tk_e3 (fun _ _ _=>rfl) (fun u _ n2=>upd_ne (ne_han n2)) (fun _ _ _ _=>rfl) (fun n1 _=>absurd rfl n1))) ((h.l.del a).ren (TokRen.hand _ _ _)) h.trb (hok_hnd h.hok ?_) ⟨by omega,v,upd_at⟩ (fun u hu=>upd_ne hu) (fun u x hu hne hpu hx=>?_) (by simp)⟩
 ·show ltok (lvDel S.lv a) j y+one1 b.cls a j y<=ltok S.lv j y
  rw[<-ltok_del hb]
  unfold one1
  by_cases e:j=b.cls/\y=a
  ·rw[if_pos e,if_pos ⟨e.2,e.1.symm,by omega⟩];exact Nat.le_refl _
  ·rw[if_neg e];omega
 ·rw[tk_han ht,tk_han ht]
  show htok (upd S.H t [⟨b.cls.toNat,v,[a]⟩] t) j y<=_
  rw[upd_at,htok_one,hck,one1_count]
  omega
 ·intro c hc'
  rw[List.mem_singleton] at hc'
  subst hc'
  exact⟨by show b.cls.toNat<_;omega,by simp,by simp⟩
 ·show lvDel S.lv a x≠none
  unfold lvDel
  by_cases e:x=a
  ·subst e;exact absurd (h.fnd u t x hu ht hpu hp) hne
  ·rw[if_neg e];exact hx
theorem Inv.backX {P:Hp} (hT:Z.isTable P.T) (hna:1<=P.na) {S:HS} {who:Who} (h:Inv P S who) {t:Nat} (ht:t<P.nt) {b:HB} {L:List HB} (hH:S.H t=b::L) {v:Value} {b':Nat}:
 ∃who',Inv P (HS.phs {S.hnd t v L with X:=upd2 S.X (t%P.na) b.k (S.X (t%P.na) b.k++[(b',b.o)])} t (if L=[] then .none else .back)) who':=by
 have ha:t%P.na<P.na:=Nat.mod_lt _ hna
 have hbk:=h.hok t ht b (by rw[hH];simp)
 refine⟨_,h.tokStep (TokRen.hand (.han t) (.tra (t%P.na)) (fun j y=>if j=(b.k:Int) then b.o.count y else 0)) (t:=t) (p':=if L=[] then .none else .back) rfl ⟨rfl,rfl,rfl,rfl,rfl⟩ (Kp.hand hT h.tk (by simp) _ (fun j y=>?_) (fun j y=>?_) (tk_e3 (fun _ _ _=>rfl) (fun u n1 _=>upd_ne (ne_han n1)) (fun a _ n2 j=>upd2_ne (fun e=>ne_tra n2 e.1)) (fun _ _=>rfl))) (h.l.ren (TokRen.hand _ _ _)) (fun a j ha' hj c hc=>?_) (hok_hnd h.hok (fun c hc=>h.hok t ht c (by rw[hH];exact mcm _ hc))) ?_ (fun u hu=>upd_ne hu) (fun u x _ _ _ hx=>hx) (fun a=>by split<;>simp)⟩
 ·rw[tk_han ht,tk_han ht,hH]
  show htok (upd S.H t L t) j y+(if j=(b.k:Int) then b.o.count y else 0)<=_
  rw[upd_at]
  simp only[htok]
  by_cases e:j=(b.k:Int)
  ·rw[if_pos e,if_pos e.symm];omega
  ·rw[if_neg e];omega
 ·show(if t%P.na<P.na/\0<=j/\j<P.T.length then xtok (upd2 S.X (t%P.na) b.k (S.X (t%P.na) b.k++[(b',b.o)]) (t%P.na) j.toNat) y else 0)<=(if t%P.na<P.na/\0<=j/\j<P.T.length then xtok (S.X (t%P.na) j.toNat) y else 0)+(if j=(b.k:Int) then b.o.count y else 0)
  by_cases c:t%P.na<P.na/\0<=j/\j<P.T.length
  ·rw[if_pos c,if_pos c]
   by_cases e:j=(b.k:Int)
   ·subst e
    rw[if_pos rfl,Int.toNat_natCast,upd2_at,xtok_append]
    simp[xtok]
   ·rw[upd2_ne (fun x=>e (by omega)),if_neg e];exact Nat.le_refl _
  ·rw[if_neg c];omega
 ·replace hc:c∈upd2 S.X (t%P.na) b.k (S.X (t%P.na) b.k++[(b',b.o)]) a j:=hc
  by_cases e:a=t%P.na/\j=b.k
  ·obtain⟨rfl,rfl⟩:=e
   rw[upd2_at] at hc
   rcases List.mem_append.1 hc with hc|hc
   ·exact h.trb _ _ ha hbk.k c hc
   ·rw[List.mem_singleton] at hc
    subst hc
    exact⟨hbk.l0,hbk.l1⟩
  ·rw[upd2_ne e] at hc
   exact h.trb a j ha' hj c hc
 ·by_cases e:L=[]
  ·rw[if_pos e];show upd S.H t L t=[];rw[upd_at];exact e
  ·rw[if_neg e];show upd S.H t L t≠ [];rw[upd_at];exact e
theorem mv_ne {who:Who} {o1 o2:Ow} {a n b:Int} (h:Has who o1 a n) (hb:who b≠o1):mv who a n o2 b=who b:=mv_out (fun x=>hb (h b x.1 x.2))
structure Pln (o:Ow):Prop where
 t:∀h k a,Ow.tok h k a≠o
 b:∀A s,Ow.big A s≠o
 g:∀t A s,Ow.giv t A s≠o
theorem Pln.spc:Pln .spc:=⟨by simp,by simp,by simp⟩
theorem Pln.bud (a:Nat):Pln (.bud a):=⟨by simp,by simp,by simp⟩
theorem Pln.cen (a k:Nat):Pln (.cen a k):=⟨by simp,by simp,by simp⟩
theorem Kp.mv {T:List Z.Cl} {who:Who} {tk:Hd->Int->Int->Nat} (h:Kp T who tk) {o1 o2:Ow} {a n:Int} (h1:Has who o1 a n) (hp:Pln o1):Kp T (Go.Proofs.YtcidjimefnhacaaGreatDoor.mv who a n o2) tk:=fun hd=>(h hd).mv h1 (fun k x=>hp.t hd k x)
theorem InvL.mv {P:Hp} {R:Nat->Int->Option Int} {lv:Int->Option Bk} {who:Who} (h:InvL P R lv who) {o1 o2:Ow} {a n:Int} (h1:Has who o1 a n) (hp:Pln o1):InvL P R lv (Go.Proofs.YtcidjimefnhacaaGreatDoor.mv who a n o2):=⟨h.sml,fun x b hb hc=>by
 obtain⟨c1,c2,c3,A,s,p,c4,c5,c6,c7,c8⟩:=h.lrg x b hb hc
 exact⟨c1,c2,c3,A,s,p,c4,c5,c6,c7,c8.mv h1 (hp.b A s)⟩⟩
theorem mv_tok {who:Who} {o2:Ow} {a n b:Int} {h:Hd} {k x:Int} (hne:o2≠ .tok h k x) (e:mv who a n o2 b=.tok h k x):who b=.tok h k x:=by
 unfold Go.Proofs.YtcidjimefnhacaaGreatDoor.mv at e
 split at e
 ·exact absurd e hne
 ·exact e
theorem InvC.grw {P:Hp} {S:HS} {who:Who} (h:InvC P S.sp S.M S.B S.L S.R who) {a s:Nat} (ha:a<P.na) {B':Nat->Int->Bool} {L':Nat->Int} (g:Gwn S a s B' L'):Has who .spc ((s:Int)*256) (16*256)/\
 InvC P (S.sp.setR s 16 1) S.M (upd S.B a B') (upd S.L a L') S.R (mv who ((s:Int)*256) (16*256) (.bud a)):=by
 obtain⟨⟨s1,s2,s3⟩,g2,g3,g4⟩:=g
 have hs:Has who .spc ((s:Int)*256) (16*256):=fun b h1 h2=>(h.spc b).2 (fun x=>x.2.2 (g2 _ (by omega) (by omega)))
 refine⟨hs,h.n,fun b k hb hk=>(h.cen b k hb hk).mv hs (by simp),fun b k hb hk y hy=>?_,fun b x hb hx=>?_,fun b=>?_,fun x hx=>?_,fun b hb=>?_,fun b j hb=>?_,fun b x p hb hR=>?_,fun y h' k x e=>h.tin y h' k x (mv_tok (by simp) e),h.dis⟩
 ·have:=h.pgs b k hb hk y hy
  rw[mv_ne hs (by rcases this with e|⟨_,_,e⟩<;>rw[e]<;>simp)]
  exact this
 ·by_cases e:b=a
  ·subst e
   rw[upd_at,g3] at hx
   rcases hx with hx|hx
   ·exact(h.bud b x hb hx).mv hs (by simp)
   ·exact(mv_in who _ _ _).sub (by omega) (by omega)
  ·rw[upd_ne e] at hx
   exact(h.bud b x hb hx).mv hs (by simp)
 ·have hst:(S.sp.setR s 16 1).st (b/256)=if(s:Int)<=b/256/\b/256<s+16 then 1 else S.sp.st (b/256):=rfl
  rw[hst]
  by_cases e:(s:Int)*256<=b/\b<s*256+16*256
  ·rw[show mv who ((s:Int)*256) (16*256) (.bud a) b=.bud a from if_pos e,if_pos (by omega)]
   simp
   omega
  ·rw[mv_out e,if_neg (by omega)]
   exact h.spc b
 ·show(if(s:Int)<=x/\x<s+16 then(1:Int) else S.sp.st x)=0
  rw[if_neg (by omega)]
  exact h.lo x hx
 ·by_cases e:(s:Int)*256<=b/\b<s*256+16*256
  ·refine⟨a,ha,?_⟩
   rw[upd_at,g4]
   exact .inr (by omega)
  ·rw[mv_out e] at hb
   obtain⟨c,hc,hL⟩:=h.own b hb
   refine⟨c,hc,?_⟩
   by_cases e:c=a
   ·subst e;rw[upd_at,g4];exact .inl hL
   ·rw[upd_ne e];exact hL
 ·by_cases e:b=a
  ·subst e
   rw[upd_at]
   have hu:=h.hugU b j hb
   have h1:=g4 j
   have h2:=g4 (16*(j/16))
   have h3:(s<=j/\j<s+16)↔(s<=16*(j/16)/\16*(j/16)<s+16):=by omega
   exact Decidable.not_iff_not.1 (h1.trans ((or_congr (Decidable.not_iff_not.2 hu) h3).trans h2.symm))
  ·rw[upd_ne e];exact h.hugU b j hb
 ·obtain⟨r1,r2⟩:=h.run b x p hb hR
  exact⟨r1,r2.imp (fun h=>h.mv hs (by simp)) (fun ⟨t,h⟩=>⟨t,h.mv hs (by simp)⟩)⟩
theorem InvC.cut {P:Hp} {sp:V.SpM} {M:Nat->Nat->List Sp} {B:Nat->Nat->Int->Bool} {L:Nat->Nat->Int} {R:Nat->Int->Option Int} {who:Who} (h:InvC P sp M B L R who) {a:Nat} (ha:a<P.na) {o m:Nat} {B2:Nat->Int->Bool} {L2:Nat->Int} (h1:∀x:Int,o<=x->x<o+m->bF (B a) x) (h2:∀x,bF B2 x↔bF (B a) x/\¬((o:Int)<=x/\x<o+m)) (hL:SameL (L a) L2) {o2:Ow} (hne:o2≠ .spc) (hne2:∀h k x,o2≠ .tok h k x):
 Has who (.bud a) ((o:Int)*256) ((m:Int)*256)/\InvC P sp M (upd B a B2) (upd L a L2) R (mv who ((o:Int)*256) ((m:Int)*256) o2):=by
 have hs:Has who (.bud a) ((o:Int)*256) ((m:Int)*256):=fun b x1 x2=>h.bud a (b/256) ha (h1 _ (by omega) (by omega)) b (by omega) (by omega)
 refine⟨hs,h.n,fun b k hb hk=>(h.cen b k hb hk).mv hs (by simp),fun b k hb hk y hy=>?_,fun b x hb hx=>?_,fun b=>?_,h.lo,fun b hb=>?_,fun b j hb=>?_,fun b x p hb hR=>?_,fun y h' k x e=>h.tin y h' k x (mv_tok (hne2 _ _ _) e),h.dis⟩
 ·have:=h.pgs b k hb hk y hy
  rw[mv_ne hs (by rcases this with e|⟨_,_,e⟩<;>rw[e]<;>simp)]
  exact this
 ·by_cases e:b=a
  ·subst e
   rw[upd_at,h2] at hx
   exact fun y y1 y2=>(mv_out (by omega)).trans (h.bud b x hb hx.1 y y1 y2)
  ·rw[upd_ne e] at hx
   exact(h.bud b x hb hx).mv hs (by simp[e])
 ·by_cases e:(o:Int)*256<=b/\b<o*256+m*256
  ·rw[show mv who ((o:Int)*256) (m*256) o2 b=o2 from if_pos e,<-h.spc b,hs b e.1 e.2]
   simp[hne]
  ·rw[mv_out e];exact h.spc b
 ·have hb2:who b≠ .spc:=fun e=>by
   by_cases c:(o:Int)*256<=b/\b<o*256+m*256
   ·rw[hs b c.1 c.2] at e;cases e
   ·rw[mv_out c] at hb;exact hb e
  obtain⟨c,hc,hc2⟩:=h.own b hb2
  refine⟨c,hc,?_⟩
  by_cases e:c=a
  ·subst e;rw[upd_at];exact fun x=>hc2 ((hL _).1 x)
  ·rw[upd_ne e];exact hc2
 ·by_cases e:b=a
  ·subst e;rw[upd_at,hL,hL];exact h.hugU b j hb
  ·rw[upd_ne e];exact h.hugU b j hb
 ·obtain⟨r1,r2⟩:=h.run b x p hb hR
  exact⟨r1,r2.imp (fun h=>h.mv hs (by simp)) (fun ⟨t,h⟩=>⟨t,h.mv hs (by simp)⟩)⟩
theorem InvC.add {P:Hp} {sp:V.SpM} {M:Nat->Nat->List Sp} {B:Nat->Nat->Int->Bool} {L:Nat->Nat->Int} {R:Nat->Int->Option Int} {who:Who} (h:InvC P sp M B L R who) {a k:Nat} {x:Int} (hx:Has who (.cen a k) (x*256) ((P.cl k).pages *256)):InvC P sp (upd2 M a k (addM (M a k) (P.cl k) x)) B L R who:=by
 have hadd:∀y,Pg (addM (M a k) (P.cl k) x) y->Pg (M a k) y\/who y=.cen a k:=by
  rintro y ⟨s,hs,h1⟩
  unfold addM at hs
  split at hs
  ·simp at hs
   rcases hs with hs|rfl|hs
   ·exact .inl ⟨s,List.mem_of_mem_take hs,h1⟩
   ·right
    have:(Sp.fresh x (P.cl k).size (P.cl k).pages (P.cl k).batch).start=x/\(Sp.fresh x (P.cl k).size (P.cl k).pages (P.cl k).batch).pages=(P.cl k).pages:=⟨rfl,rfl⟩
    rw[this.1,this.2,Int.add_mul] at h1
    exact hx y h1.1 h1.2
   ·exact .inl ⟨s,List.mem_of_mem_drop hs,h1⟩
  ·exact .inl ⟨s,hs,h1⟩
 have hno:∀b j y,b<P.na->j<P.T.length->¬(b=a/\j=k)->Pg (M b j) y->who y≠ .cen a k:=by
  intro b j y hb hj hne hy e
  rcases h.pgs b j hb hj y hy with e2|⟨_,_,e2⟩
  ·rw[e] at e2;injection e2 with e3 e4;exact hne ⟨e3.symm,e4.symm⟩
  ·rw[e] at e2;cases e2
 refine {h with cen:=fun b j hb hj=>?_,pgs:=fun b j hb hj y hy=>?_,dis:=fun b j b' j' y hb hj hb' hj' h1 h2=>?_}
 ·by_cases e:b=a/\j=k
  ·obtain⟨rfl,rfl⟩:=e
   rw[upd2_at];exact(h.cen b j hb hj).add hx
  ·rw[upd2_ne e];exact h.cen b j hb hj
 ·by_cases e:b=a/\j=k
  ·obtain⟨rfl,rfl⟩:=e
   rw[upd2_at] at hy
   obtain⟨s,hs,h1⟩:=hy
   unfold addM at hs
   split at hs
   ·simp at hs
    rcases hs with hs|rfl|hs
    ·exact h.pgs b j hb hj y ⟨s,List.mem_of_mem_take hs,h1⟩
    ·left
     have:(Sp.fresh x (P.cl j).size (P.cl j).pages (P.cl j).batch).start=x/\(Sp.fresh x (P.cl j).size (P.cl j).pages (P.cl j).batch).pages=(P.cl j).pages:=⟨rfl,rfl⟩
     rw[this.1,this.2,Int.add_mul] at h1
     exact hx y h1.1 h1.2
    ·exact h.pgs b j hb hj y ⟨s,List.mem_of_mem_drop hs,h1⟩
   ·exact h.pgs b j hb hj y ⟨s,hs,h1⟩
  ·rw[upd2_ne e] at hy;exact h.pgs b j hb hj y hy
 ·by_cases e:b=a/\j=k
  ·by_cases e':b'=a/\j'=k
   ·exact⟨e.1.trans e'.1.symm,e.2.trans e'.2.symm⟩
   ·obtain⟨rfl,rfl⟩:=e
    rw[upd2_at] at h1
    rw[upd2_ne e'] at h2
    rcases hadd y h1 with h3|h3
    ·exact h.dis b j b' j' y hb hj hb' hj' h3 h2
    ·exact absurd h3 (hno b' j' y hb' hj' e' h2)
  ·rw[upd2_ne e] at h1
   by_cases e':b'=a/\j'=k
   ·obtain⟨rfl,rfl⟩:=e'
    rw[upd2_at] at h2
    rcases hadd y h2 with h3|h3
    ·exact h.dis b j b' j' y hb hj hb' hj' h1 h3
    ·exact absurd h3 (hno b j y hb hj e h1)
   ·rw[upd2_ne e'] at h2
    exact h.dis b j b' j' y hb hj hb' hj' h1 h2
theorem InvC.runPut {P:Hp} {sp:V.SpM} {M:Nat->Nat->List Sp} {B:Nat->Nat->Int->Bool} {L:Nat->Nat->Int} {R:Nat->Int->Option Int} {who:Who} (h:InvC P sp M B L R who) {a:Nat} {s p:Int} (hp:1<=p) (hs:Has who (.big a s) (s*256) (p*256)):InvC P sp M B L (upd R a (fun j=>if j=s then some p else R a j)) who:=by
 refine {h with run:=fun b x q hb hR=>?_}
 by_cases e:b=a
 ·subst e
  rw[upd_at] at hR
  by_cases e2:x=s
  ·subst e2
   rw[if_pos rfl] at hR
   injection hR with hR
   subst hR
   exact⟨hp,.inl hs⟩
  ·rw[if_neg e2] at hR;exact h.run b x q hb hR
 ·rw[upd_ne e] at hR;exact h.run b x q hb hR
theorem InvC.give {P:Hp} {sp:V.SpM} {M:Nat->Nat->List Sp} {B:Nat->Nat->Int->Bool} {L:Nat->Nat->Int} {R:Nat->Int->Option Int} {who:Who} (h:InvC P sp M B L R who) {t a:Nat} (ha:a<P.na) {s p:Int} (hs:Has who (.giv t a s) (s*256) (p*256)) {B':Nat->Int->Bool} {L':Nat->Int} (hB:∀x,bF B' x↔bF (B a) x\/(s<=x/\x<s+p)) (hL:SameL (L a) L'):
 InvC P sp M (upd B a B') (upd L a L') (upd R a (fun j=>if j=s then none else R a j)) (mv who (s*256) (p*256) (.bud a)):=by
 refine⟨h.n,fun b k hb hk=>(h.cen b k hb hk).mv hs (by simp),fun b k hb hk y hy=>?_,fun b x hb hx=>?_,fun b=>?_,h.lo,fun b hb=>?_,fun b j hb=>?_,fun b x q hb hR=>?_,fun y h' k x e=>h.tin y h' k x (mv_tok (by simp) e),h.dis⟩
 ·have:=h.pgs b k hb hk y hy
  rw[mv_ne hs (by rcases this with e|⟨_,_,e⟩<;>rw[e]<;>simp)]
  exact this
 ·by_cases e:b=a
  ·subst e
   rw[upd_at,hB] at hx
   rcases hx with hx|hx
   ·exact(h.bud b x hb hx).mv hs (by simp)
   ·exact(mv_in who _ _ _).sub (by omega) (by omega)
  ·rw[upd_ne e] at hx
   exact(h.bud b x hb hx).mv hs (by simp)
 ·by_cases e:s*256<=b/\b<s*256+p*256
  ·rw[show mv who (s*256) (p*256) (.bud a) b=.bud a from if_pos e,<-h.spc b,hs b e.1 e.2]
   simp
  ·rw[mv_out e];exact h.spc b
 ·have hb2:who b≠ .spc:=fun e=>by
   by_cases c:s*256<=b/\b<s*256+p*256
   ·rw[hs b c.1 c.2] at e;cases e
   ·rw[mv_out c] at hb;exact hb e
  obtain⟨c,hc,hc2⟩:=h.own b hb2
  refine⟨c,hc,?_⟩
  by_cases e:c=a
  ·subst e;rw[upd_at];exact fun x=>hc2 ((hL _).1 x)
  ·rw[upd_ne e];exact hc2
 ·by_cases e:b=a
  ·subst e;rw[upd_at,hL,hL];exact h.hugU b j hb
  ·rw[upd_ne e];exact h.hugU b j hb
 ·have key:R b x=some q/\¬(b=a/\x=s):=by
   by_cases e:b=a
   ·subst e
    rw[upd_at] at hR
    by_cases e2:x=s
    ·rw[if_pos e2] at hR;cases hR
    ·rw[if_neg e2] at hR;exact⟨hR,fun c=>e2 c.2⟩
   ·rw[upd_ne e] at hR;exact⟨hR,fun c=>e c.1⟩
  obtain⟨r1,r2⟩:=h.run b x q hb key.1
  exact⟨r1,r2.imp (fun h=>h.mv hs (by simp)) (fun ⟨u,h⟩=>⟨u,h.mv hs (by intro e;injection e with _ e2 e3;exact key.2 ⟨e2,e3⟩)⟩)⟩
theorem PhOk.mv {P:Hp} {S S':HS} {who:Who} {t:Nat} {p:Ph} (h:PhOk P S who t p) {o1 o2:Ow} {x n:Int} (h1:Has who o1 x n) (hp:Pln o1) (hH:S'.H t=S.H t) (hlv:∀a,S.lv a≠none->S'.lv a≠none) (hR:∀A s q,A<P.na->S.R A s=some q->S'.R A s=some q):PhOk P S' (Go.Proofs.YtcidjimefnhacaaGreatDoor.mv who x n o2) t p:=by
 cases p with
 |none=>exact hH.trans h
 |take k=>exact⟨h.1,hH.trans h.2⟩
 |transfer k n=>exact⟨h.1,h.2.1,h.2.2.1,hH.trans h.2.2.2⟩
 |central k n=>exact⟨h.1,h.2.1,h.2.2.1,hH.trans h.2.2.2⟩
 |grow k n=>exact⟨h.1,h.2.1,h.2.2.1,hH.trans h.2.2.2⟩
 |fill=>exact h.imp (fun b hb=>hH.trans hb)
 |large n=>exact⟨h.1,h.2.1,hH.trans h.2.2⟩
 |find a=>exact⟨hH.trans h.1,hlv a h.2⟩
 |put k a=>exact⟨h.1,h.2.imp (fun v hv=>hH.trans hv)⟩
 |back=>show S'.H t≠ [];rw[hH];exact h
 |give s A=>
  obtain⟨a1,a2,a3,a4,A2,q,a5,a6,a7,a8⟩:=h
  exact⟨hH.trans a1,a2,a3,a4,A2,q,a5,a6,hR _ _ _ a5 a7,a8.mv h1 (hp.g t A2 s)⟩
 |drain=>exact hH.trans h
theorem Inv.mvStep {P:Hp} {S S':HS} {who:Who} (h:Inv P S who) {o1 o2:Ow} {x n:Int} (h1:Has who o1 x n) (hp:Pln o1) (hc:InvC P S'.sp S'.M S'.B S'.L S'.R (Go.Proofs.YtcidjimefnhacaaGreatDoor.mv who x n o2)) (htk:∀hd j y,tkH P S' hd j y=tkH P S hd j y) (hX:S'.X=S.X) (hH:S'.H=S.H) (hph:S'.ph=S.ph) (hlv:∀a,S.lv a≠none->S'.lv a≠none)
 (hR:∀A s q,A<P.na->S.R A s=some q->S'.R A s=some q) (hl:InvL P S'.R S'.lv (Go.Proofs.YtcidjimefnhacaaGreatDoor.mv who x n o2)):Inv P S' (Go.Proofs.YtcidjimefnhacaaGreatDoor.mv who x n o2) where
 c:=hc
 tk:=fun hd=>((h.tk hd).mv h1 (fun k y=>hp.t hd k y)).less (fun j y=>Nat.le_of_eq (htk hd j y))
 l:=hl
 trb:=by rw[hX];exact h.trb
 hok:=by rw[hH];exact h.hok
 phs:=fun t ht=>by rw[hph];exact(h.phs t ht).mv h1 hp (by rw[hH]) hlv hR
 fnd:=by rw[hph];exact h.fnd
theorem Inv.grw {P:Hp} {S S1:HS} {who:Who} (h:Inv P S who) {a:Nat} (ha:a<P.na) (hg:Grw S a S1):∃who1,Inv P S1 who1:=by
 rcases hg with rfl|⟨s,B',L',g,rfl⟩
 ·exact⟨who,h⟩
 ·obtain⟨hs,hc⟩:=h.c.grw ha g
  exact⟨_,h.mvStep hs Pln.spc (S':=S.gw a s B' L') hc (fun hd j y=>rfl) rfl rfl rfl (fun _ h=>h) (fun _ _ _ _ h=>h) (h.l.mv hs Pln.spc)⟩
theorem Grw.same {S S1:HS} {a:Nat} (h:Grw S a S1):S1.M=S.M/\S1.R=S.R/\S1.X=S.X/\S1.C=S.C/\S1.H=S.H/\S1.ph=S.ph/\S1.lv=S.lv:=by
 rcases h with rfl|⟨s,B',L',g,rfl⟩
 ·exact⟨rfl,rfl,rfl,rfl,rfl,rfl,rfl⟩
 ·exact⟨rfl,rfl,rfl,rfl,rfl,rfl,rfl⟩
theorem Inv.grown {P:Hp} {S S':HS} {who:Who} (h:Inv P S who) {a k:Nat} (ha:a<P.na) {er:Int} (hg:GrownS P S a k S' er):(∃who',Inv P S' who')/\S'.H=S.H/\S'.ph=S.ph/\S'.lv=S.lv:=by
 rcases hg with ⟨_,hg⟩|⟨S1,o,B2,L2,m,hm,hg,_,⟨c1,c2,c3⟩,hL,rfl⟩
 ·obtain⟨_,_,_,_,e1,e2,e3⟩:=hg.same
  exact⟨h.grw ha hg,e1,e2,e3⟩
 ·obtain⟨e0,_,_,_,e1,e2,e3⟩:=hg.same
  obtain⟨who1,h1⟩:=h.grw ha hg
  obtain⟨q1,q2⟩:=h1.c.cut ha (o:=o) (m:=m) c2 c3 hL (o2:=.cen a k) (by simp) (by simp)
  have q3:=q2.add (a:=a) (k:=k) (x:=o) (by
   rw[show(P.cl k).pages=(m:Int) from hm.symm]
   exact mv_in who1 ((o:Int)*256) ((m:Int)*256) (.cen a k))
  rw[e0] at q3
  exact⟨⟨_,h1.mvStep q1 (Pln.bud a) (S':={S1.bk a B2 L2 with M:=upd2 S.M a k (addM (S.M a k) (P.cl k) o)}) q3 (fun hd j y=>rfl) rfl rfl rfl (fun _ h=>h) (fun _ _ _ _ h=>h) (h1.l.mv q1 (Pln.bud a))⟩,e1,e2,e3⟩
theorem Inv.growStep {P:Hp} {S S':HS} {who:Who} (h:Inv P S who) (hna:1<=P.na) {t k:Nat} {n:Int} (ht:t<P.nt) (hp:S.ph t=.grow k n) {er:Int} (hg:GrownS P S (t%P.na) k S' er):(∃who',Inv P (HS.phs S' t .none) who')/\∃who',Inv P (HS.phs S' t (.central k n)) who':=by
 have hph:=h.phs t ht
 rw[hp] at hph
 obtain⟨⟨who',h'⟩,e1,e2,e3⟩:=h.grown (Nat.mod_lt _ hna) hg
 exact⟨⟨who',h'.stay (p':=.none) (show S'.H t=[] by rw[e1];exact hph.2.2.2) (by simp)⟩,who',h'.stay (p':=.central k n) ⟨hph.1,hph.2.1,hph.2.2.1,by rw[e1];exact hph.2.2.2⟩ (by simp)⟩
theorem Inv.largeNo {P:Hp} {S S':HS} {who:Who} (h:Inv P S who) (hna:1<=P.na) {t n:Nat} (ht:t<P.nt) (hp:S.ph t=.large n) (hg:LargeS S (t%P.na) n S' none):∃who',Inv P (HS.phs S' t .none) who':=by
 have hph:=h.phs t ht
 rw[hp] at hph
 obtain⟨who',h'⟩:=h.grw (Nat.mod_lt _ hna) hg
 exact⟨who',h'.stay (p':=.none) (show S'.H t=[] by rw[(Grw.same hg).2.2.2.2.1];exact hph.2.2) (by simp)⟩
theorem Inv.largeYes {P:Hp} (hT:Z.isTable P.T) {S S':HS} {who:Who} (h:Inv P S who) (hna:1<=P.na) {t n o ar:Nat} (ht:t<P.nt) (hp:S.ph t=.large n) (hg:LargeS S (t%P.na) n S' (some o)) (har:ar<P.na):
 S.lv ((o:Int)*256)=none/\∃who',Inv P (HS.phs {S' with lv:=lvPut S.lv ((o:Int)*256) ⟨(n:Int)*256, -1,ar⟩} t .none) who':=by
 have hph:=h.phs t ht
 rw[hp] at hph
 have ha:t%P.na<P.na:=Nat.mod_lt _ hna
 obtain⟨S1,B2,L2,hg,⟨c1,c2,c3⟩,hL,rfl⟩:=hg
 obtain⟨e0,eR,e4,e5,e1,e2,e3⟩:=hg.same
 obtain⟨who1,h1⟩:=h.grw ha hg
 obtain⟨q1,q2⟩:=h1.c.cut ha (o:=o) (m:=n) c2 c3 hL (o2:=.big (t%P.na) o) (by simp) (by simp)
 have hn0:=hph.1
 have hno:S.R (t%P.na) o=none:=by
  cases hR:S.R (t%P.na) o with
  |none=>rfl
  |some p=>
   obtain⟨p1,p2⟩:=h1.c.run (t%P.na) o p ha (by rw[eR];exact hR)
   rcases p2 with p2|⟨u,p2⟩
   ·have:=p2.eq q1 ((o:Int)*256) (Int.le_refl _) (by omega) (Int.le_refl _) (by omega)
    cases this
   ·have:=p2.eq q1 ((o:Int)*256) (Int.le_refl _) (by omega) (Int.le_refl _) (by omega)
    cases this
 have hnl:S.lv ((o:Int)*256)=none:=by
  cases hb:S.lv ((o:Int)*256) with
  |none=>rfl
  |some b=>
   rw[<-e3] at hb
   rcases Int.lt_or_le b.cls 0 with hc|hc
   ·obtain⟨_,_,_,A,s,p,hA,e1,e2,_,e3⟩:=h1.l.lrg _ b hb hc
    have hp1:=(h1.c.run A s p hA e2).1
    have:=e3.eq q1 ((o:Int)*256) (Int.le_refl _) (by omega) (Int.le_refl _) (by omega)
    cases this
   ·have hl:0<tkH P S1 .liv b.cls ((o:Int)*256):=by
     show 0<ltok S1.lv b.cls ((o:Int)*256)
     unfold ltok
     rw[hb]
     simp[hc]
    obtain⟨_,p1,p2,p3⟩:=h1.tk .liv b.cls _ hl
    have s1:=szK_pos hT p1 p2
    have:=p3.eq q1 ((o:Int)*256) (Int.le_refl _) (by omega) (Int.le_refl _) (by omega)
    cases this
 have hbig:=mv_in who1 ((o:Int)*256) ((n:Int)*256) (.big (t%P.na) o)
 have q3:=q2.runPut (a:=t%P.na) (s:=o) (p:=n) (by omega) hbig
 rw[eR] at q3
 have hRm:∀A s q,A<P.na->S1.R A s=some q->upd S.R (t%P.na) (fun j=>if j=(o:Int) then some (n:Int) else S.R (t%P.na) j) A s=some q:=by
  intro A s q _ hq
  rw[eR] at hq
  by_cases e:A=t%P.na
  ·subst e
   rw[upd_at]
   by_cases e2:s=o
   ·subst e2;rw[hno] at hq;cases hq
   ·rw[if_neg e2];exact hq
  ·rw[upd_ne e];exact hq
 have hI:=h1.mvStep q1 (Pln.bud (t%P.na)) (S':={S1.bk (t%P.na) B2 L2 with R:=upd S.R (t%P.na) (fun j=>if j=(o:Int) then some (n:Int) else S.R (t%P.na) j),lv:=lvPut S.lv ((o:Int)*256) ⟨(n:Int)*256, -1,ar⟩}) q3 (fun hd j y=>by
  cases hd with
  |liv=>
   show ltok (lvPut S.lv ((o:Int)*256) ⟨(n:Int)*256, -1,ar⟩) j y=ltok S1.lv j y
   rw[ltok_put hnl,e3,if_neg (by rintro ⟨_,h2,h3⟩;replace h2:(-1:Int)=j:=h2;omega)]
   rfl
  |_=>rfl) rfl rfl rfl (fun x hx=>by rw[e3] at hx;exact lvPut_some hx) hRm ?_
 ·refine⟨hnl,_,hI.stay (p':=.none) (show S1.H t=[] by rw[e1];exact hph.2.2) (by simp)⟩
 ·have hl:=h1.l.mv q1 (Pln.bud (t%P.na)) (o2:=.big (t%P.na) o)
  constructor
  ·intro x b hb hc
   replace hb:lvPut S.lv ((o:Int)*256) ⟨(n:Int)*256, -1,ar⟩ x=some b:=hb
   unfold lvPut at hb
   split at hb
   ·injection hb with hb
    subst hb
    exact absurd hc (by show ¬((0:Int)<= -1);omega)
   ·exact h.l.sml x b hb hc
  ·intro x b hb hc
   replace hb:lvPut S.lv ((o:Int)*256) ⟨(n:Int)*256, -1,ar⟩ x=some b:=hb
   unfold lvPut at hb
   split at hb
   ·rename_i ex
    injection hb with hb
    subst hb
    refine⟨rfl,by show(ar:Int)<P.na;omega,by show(0:Int)<=ar;omega,t%P.na,o,n,ha,ex,?_,rfl,?_⟩
    ·show upd S.R (t%P.na) _ (t%P.na) (o:Int)=_
     rw[upd_at,if_pos rfl]
    ·rw[ex];exact hbig
   ·rw[<-e3] at hb
    obtain⟨d1,d2,d3,A,s,p,d4,d5,d6,d7,d8⟩:=hl.lrg x b hb hc
    exact⟨d1,d2,d3,A,s,p,d4,d5,hRm A s p d4 d6,d7,d8⟩
end Go.Proofs.YtcidjimefnhacaaGreatDoor
