/- TopSchedules, a part of the proof: Ra, Rb. -/
import Derived.Test.YtcidjimefnhacaaGreatDoorM34
set_option linter.unusedVariables false
set_option linter.unusedSimpArgs false
namespace Go.Proofs.YtcidjimefnhacaaGreatDoor
open Go.RowKit
def Al (P:Hp) (S:HS):Prop:=∀h k a,0<tkH P S h k a->a%8=0
theorem tkH_congr {P:Hp} {S S':HS} (h1:S'.lv=S.lv) (h2:S'.C=S.C) (h3:S'.H=S.H) (h4:S'.X=S.X):tkH P S'=tkH P S:=by
 funext h k a
 cases h<;>simp only[tkH,h1,h2,h3,h4]
theorem Al.of {P:Hp} {S S':HS} (h:Al P S) (e:∀h k a,0<tkH P S' h k a->(∃h',0<tkH P S h' k a)\/a%8=0):Al P S':=fun hd k a h0=>(e hd k a h0).elim (fun ⟨h',h1⟩=>h h' k a h1) id
theorem Al.congr {P:Hp} {S S':HS} (h:Al P S) (e:tkH P S'=tkH P S):Al P S':=fun hd k a h0=>h hd k a (by rw[<-e];exact h0)
theorem takesTo_al {c:Cl} {M:List Sp} (hg:GoodL c M) (n:Nat):GoodL c (takesTo M n).2/\∀x∈(takesTo M n).1,x%8=0:=by
 induction n with
 |zero=>exact⟨hg,fun x hx=>by cases hx⟩
 |succ n ih=>
  obtain⟨i1,i2⟩:=ih
  cases hok:(one7 (takesTo M n).2).1.2 with
  |false=>rw[takesTo,if_neg (by rw[hok];decide)];exact⟨i1,i2⟩
  |true=>
   rw[takesTo_more hok]
   obtain⟨b,hb,he⟩:=one7_some hok
   obtain⟨g1,g2,g3⟩:=TK_take i1 hb
   rw[he]
   refine⟨g1,fun x hx=>?_⟩
   rcases List.mem_append.1 hx with hx|hx
   ·exact i2 x hx
   ·rw[List.mem_singleton] at hx
    obtain⟨hl,hr⟩:=bestTo_lt _ _ _ hb
    obtain⟨kk,k1,k2,k3,k4⟩:=Sp.take_room (i1.sp b hl).1 hr
    have hs:=(i1.sp b hl).2.1
    obtain⟨o1,o2,o3,_⟩:=i1.ok
    rw[hx,k4]
    dsimp only
    rw[hs]
    obtain⟨q,hq⟩:∃q,c.size=8*q:=⟨c.size/8,by omega⟩
    rw[hq,show(kk:Int)*(8*q)=8*(kk*q) by rw[<-Int.mul_assoc,Int.mul_comm (kk:Int) 8,Int.mul_assoc]]
    omega
theorem ltok_putle {lv:Int->Option Bk} {a:Int} {b:Bk} {k x:Int} (h:0<ltok (lvPut lv a b) k x):0<ltok lv k x\/(x=a/\b.cls=k):=by
 unfold ltok lvPut at h
 by_cases e:x=a
 ·rw[if_pos e] at h
  dsimp only at h
  split at h
  ·rename_i h2;exact .inr ⟨e,h2.1⟩
  ·omega
 ·rw[if_neg e] at h;exact .inl h
theorem ltok_delle {lv:Int->Option Bk} {a:Int} {k x:Int} (h:0<ltok (lvDel lv a) k x):0<ltok lv k x:=by
 unfold ltok lvDel at h
 by_cases e:x=a
 ·rw[if_pos e] at h;dsimp only at h;omega
 ·rw[if_neg e] at h;exact h
theorem count_mem {l:List Int} {y:Int} (h:0<l.count y):y∈l:=List.count_pos_iff.1 h
theorem Grw.sp {S S1:HS} {a:Nat} (h:Grw S a S1):S1.sp=S.sp\/∃s:Nat,S1.sp=S.sp.setR s 16 1/\∀x:Int,s<=x->x<s+16->S.sp.st x=0:=by
 rcases h with rfl|⟨s,B',L',hg,rfl⟩
 ·exact .inl rfl
 ·exact .inr ⟨s,rfl,hg.st⟩
theorem GrownS.same {P:Hp} {S S':HS} {a k:Nat} {er:Int} (h:GrownS P S a k S' er):S'.X=S.X/\S'.C=S.C/\S'.H=S.H/\S'.ph=S.ph/\S'.lv=S.lv/\(∃S1,Grw S a S1/\S'.sp=S1.sp)/\(S'.M=S.M\/∃o:Nat,er=addE (S.M a k) (P.cl k) o/\S'.M=upd2 S.M a k (addM (S.M a k) (P.cl k) o)):=by
 rcases h with ⟨_,h⟩|⟨S1,o,B2,L2,m,_,h,he,_,_,rfl⟩
 ·obtain⟨h1,h2,h3,h4,h5,h6,h7⟩:=h.same
  exact⟨h3,h4,h5,h6,h7,⟨_,h,rfl⟩,.inl h1⟩
 ·obtain⟨h1,h2,h3,h4,h5,h6,h7⟩:=h.same
  exact⟨h3,h4,h5,h6,h7,⟨_,h,rfl⟩,.inr ⟨o,he,rfl⟩⟩
theorem LargeS.same {S S':HS} {a n:Nat} {o:Option Nat} (h:LargeS S a n S' o):S'.M=S.M/\S'.X=S.X/\S'.C=S.C/\S'.H=S.H/\S'.ph=S.ph/\S'.lv=S.lv/\∃S1,Grw S a S1/\S'.sp=S1.sp:=by
 cases o with
 |none=>
  obtain⟨h1,h2,h3,h4,h5,h6,h7⟩:=Grw.same h
  exact⟨h1,h3,h4,h5,h6,h7,_,h,rfl⟩
 |some o=>
  obtain⟨S1,B2,L2,h,_,_,rfl⟩:=h
  obtain⟨h1,h2,h3,h4,h5,h6,h7⟩:=h.same
  exact⟨h1,h3,h4,h5,h6,h7,_,h,rfl⟩
theorem Al.step {P:Hp} (hna:1<=P.na) {S:HS} {who:Who} (hI:Inv P S who) (hG:∀a k,a<P.na->k<P.T.length->GoodL (P.cl k) (S.M a k)) {t:Nat} (ht:t<P.nt) {p p':Ph} {S':HS} {r:Int×Int} (hp:S.ph t=p) (hs:PStep P S t p S' p' r) (h:Al P S):Al P (S'.phs t p'):=by
 have hph:=hI.phs t ht
 rw[hp] at hph
 have ha:t%P.na<P.na:=Nat.mod_lt _ hna
 refine Al.congr (S:=S') ?_ rfl
 have hcac:∀{C':Int->Option CE} {hd k a},hd=Hd.cac t->0<tkH P S hd k a->0<ctok (S.C t) k a:=fun e h0=>by rw[e,tk_cac ht] at h0;exact h0
 cases hs with
 |takeHit h1 h2=>
  rename_i k C' a ar
  refine h.of fun hd j y h0=>?_
  have hy:∀j y,(0<ctok C' j y\/(y=a/\j=(k:Int)))->0<tkH P S (.cac t) j y:=fun j y hh=>by
   rw[tk_cac ht]
   have:=h1 j y
   rcases hh with hh|⟨rfl,rfl⟩
   ·omega
   ·rw[show one1 (k:Int) y k y=1 from if_pos ⟨rfl,rfl⟩] at this;omega
  by_cases e1:hd=.cac t
  ·subst e1
   rw[tk_cac ht] at h0
   replace h0:0<ctok (upd S.C t C' t) j y:=h0
   rw[upd_at] at h0
   exact .inl ⟨_,hy j y (.inl h0)⟩
  ·by_cases e2:hd=.liv
   ·subst e2
    rcases ltok_putle (show 0<ltok (lvPut S.lv a ⟨(Z.cAt P.T k).s,k,ar⟩) j y from h0) with h3|⟨h3,h4⟩
    ·exact .inl ⟨.liv,h3⟩
    ·exact .inl ⟨_,hy j y (.inr ⟨h3,h4.symm⟩)⟩
   ·(refine .inl ⟨hd,Nat.lt_of_lt_of_le h0 ?_⟩;refine tk_e3 (h1:=.cac t) (h2:=.liv) ?_ ?_ ?_ ?_ hd e1 e2 j y;exact fun u n1 _=>upd_ne (ne_cac n1);exact fun _ _ _=>rfl;exact fun _ _ _ _=>rfl;exact fun _ n2=>absurd rfl n2)
 |takeMiss h1 h2 h3=>
  rename_i k C' n
  refine h.of fun hd j y h0=>?_
  by_cases e1:hd=.cac t
  ·subst e1
   rw[tk_cac ht] at h0
   replace h0:0<ctok (upd S.C t C' t) j y:=h0
   rw[upd_at,h1] at h0
   exact .inl ⟨.cac t,by rw[tk_cac ht];exact h0⟩
  ·(refine .inl ⟨hd,Nat.lt_of_lt_of_le h0 ?_⟩;refine tk_e3 (h1:=.cac t) (h2:=.cac t) ?_ ?_ ?_ ?_ hd e1 e1 j y;exact fun u n1 _=>upd_ne (ne_cac n1);exact fun _ _ _=>rfl;exact fun _ _ _ _=>rfl;exact fun _ _=>rfl)
 |moveHit h1=>
  rename_i k n b v v'
  have hX:S.X (t%P.na) k=(S.X (t%P.na) k).dropLast++[b]:=by
   obtain⟨q1,q2⟩:=List.getLast?_eq_some_iff.1 h1
   rw[q2]
   simp
  have hk:=hph.1
  refine h.of fun hd j y h0=>?_
  have hx:∀j y,tkH P S (.tra (t%P.na)) j y=if 0<=j/\j<P.T.length then xtok (S.X (t%P.na) j.toNat) y else 0:=fun j y=>by
   show(if _ then _ else _)=_
   by_cases c:0<=j/\j<P.T.length
   ·rw[if_pos ⟨ha,c⟩,if_pos c]
   ·rw[if_neg (fun x=>c x.2),if_neg c]
  have hsplit:∀y,xtok (S.X (t%P.na) k) y=xtok (S.X (t%P.na) k).dropLast y+b.2.count y:=fun y=>by
   have:=congrArg (fun X=>xtok X y) hX
   refine this.trans ?_
   show xtok _ _=_
   rw[xtok_append]
   simp[xtok]
  by_cases e1:hd=.tra (t%P.na)
  ·subst e1
   refine .inl ⟨.tra (t%P.na),?_⟩
   replace h0:0<(if t%P.na<P.na/\0<=j/\j<P.T.length then xtok (upd2 S.X (t%P.na) k (S.X (t%P.na) k).dropLast (t%P.na) j.toNat) y else 0):=h0
   rw[hx]
   by_cases c:0<=j/\j<P.T.length
   ·rw[if_pos ⟨ha,c⟩] at h0
    rw[if_pos c]
    by_cases e:j.toNat=k
    ·rw[e,upd2_at] at h0
     rw[e,hsplit];omega
    ·rw[upd2_ne (fun x=>e x.2)] at h0;exact h0
   ·rw[if_neg (fun x=>c x.2)] at h0;omega
  ·by_cases e2:hd=.han t
   ·subst e2
    rw[tk_han ht] at h0
    replace h0:0<htok (upd S.H t (S.H t++[⟨k,v,b.2⟩]) t) j y:=h0
    rw[upd_at,htok_append,htok_one] at h0
    by_cases e:j=(k:Int)
    ·rw[if_pos e] at h0
     by_cases c:0<htok (S.H t) j y
     ·exact .inl ⟨.han t,by rw[tk_han ht];exact c⟩
     ·refine .inl ⟨.tra (t%P.na),?_⟩
      rw[hx,e,if_pos ⟨by omega,by omega⟩,Int.toNat_natCast,hsplit]
      omega
    ·rw[if_neg e] at h0
     exact .inl ⟨.han t,by rw[tk_han ht];omega⟩
   ·(refine .inl ⟨hd,Nat.lt_of_lt_of_le h0 ?_⟩;refine tk_e3 (h1:=.tra (t%P.na)) (h2:=.han t) ?_ ?_ ?_ ?_ hd e1 e2 j y;exact fun u n1 _=>rfl;exact fun u _ n2=>upd_ne (ne_han n2);exact fun a n1 _ j=>upd2_ne (fun e=>ne_tra n1 e.1);exact fun _ _=>rfl)
 |moveMiss=>exact h
 |centHit h1=>
  rename_i k n v v'
  have hal:=(takesTo_al (hG _ _ ha hph.1) n.toNat).2
  refine h.of fun hd j y h0=>?_
  by_cases e2:hd=.han t
  ·subst e2
   rw[tk_han ht] at h0
   replace h0:0<htok (upd S.H t (S.H t++[⟨k,v,(takesTo (S.M (t%P.na) k) n.toNat).1⟩]) t) j y:=h0
   rw[upd_at,htok_append,htok_one] at h0
   by_cases e:j=(k:Int)
   ·rw[if_pos e] at h0
    by_cases c:0<htok (S.H t) j y
    ·exact .inl ⟨.han t,by rw[tk_han ht];exact c⟩
    ·exact .inr (hal y (count_mem (by omega)))
   ·rw[if_neg e] at h0
    exact .inl ⟨.han t,by rw[tk_han ht];omega⟩
  ·(refine .inl ⟨hd,Nat.lt_of_lt_of_le h0 ?_⟩;refine tk_e3 (h1:=.han t) (h2:=.han t) ?_ ?_ ?_ ?_ hd e2 e2 j y;exact fun u n1 _=>rfl;exact fun u _ n2=>upd_ne (ne_han n2);exact fun _ _ _ _=>rfl;exact fun _ _=>rfl)
 |centMiss h1=>exact h.congr (tkH_congr rfl rfl rfl rfl)
 |growNo h1 _=>obtain⟨e1,e2,e3,_,e5,_⟩:=h1.same;exact h.congr (tkH_congr e5 e2 e3 e1)
 |growYes h1=>obtain⟨e1,e2,e3,_,e5,_⟩:=h1.same;exact h.congr (tkH_congr e5 e2 e3 e1)
 |fill h1 h2 h3 h4=>
  rename_i b x xs C' ar
  have hx:∀j y,j=(b.k:Int)->y∈b.o->0<tkH P S (.han t) j y:=fun j y e hy=>by
   rw[tk_han ht,h1]
   have:=List.count_pos_iff.2 hy
   simp only[htok,if_pos e.symm]
   omega
  refine h.of fun hd j y h0=>?_
  by_cases e1:hd=.cac t
  ·subst e1
   rw[tk_cac ht] at h0
   replace h0:0<ctok (upd S.C t C' t) j y:=h0
   rw[upd_at] at h0
   have:=h3 j y
   by_cases c:0<ctok (S.C t) j y
   ·exact .inl ⟨.cac t,by rw[tk_cac ht];exact c⟩
   ·by_cases e:j=(b.k:Int)
    ·rw[if_pos e] at this
     exact .inl ⟨.han t,hx j y e (by rw[h2];exact mcm _ (count_mem (by omega)))⟩
    ·rw[if_neg e] at this;omega
  ·by_cases e2:hd=.liv
   ·subst e2
    rcases ltok_putle (show 0<ltok (lvPut S.lv x ⟨(Z.cAt P.T b.k).s,b.k,ar⟩) j y from h0) with h3|⟨h3,h4⟩
    ·exact .inl ⟨.liv,h3⟩
    ·exact .inl ⟨_,hx j y h4.symm (by rw[h2,h3];simp)⟩
   ·by_cases e3:hd=.han t
    ·subst e3
     rw[tk_han ht] at h0
     replace h0:0<htok (upd S.H t [] t) j y:=h0
     rw[upd_at] at h0
     simp[htok] at h0
    ·refine .inl ⟨hd,Nat.lt_of_lt_of_le h0 ?_⟩
     cases hd with
     |liv=>exact absurd rfl e2
     |cac u=>
      show(if u<P.nt then ctok (upd S.C t C' u) j y else 0)<=if u<P.nt then ctok (S.C u) j y else 0
      rw[upd_ne (ne_cac e1)]
      exact Nat.le_refl _
     |han u=>
      show(if u<P.nt then htok (upd S.H t [] u) j y else 0)<=if u<P.nt then htok (S.H u) j y else 0
      rw[upd_ne (ne_han e3)]
      exact Nat.le_refl _
     |tra a=>exact Nat.le_refl _
 |largeNo h1=>obtain⟨_,e1,e2,e3,_,e5,_⟩:=h1.same;exact h.congr (tkH_congr e5 e2 e3 e1)
 |largeYes h1 h2=>
  rename_i n o ar S'
  obtain⟨_,e1,e2,e3,_,e5,_⟩:=h1.same
  refine h.of fun hd j y h0=>?_
  cases hd with
  |liv=>
   rcases ltok_putle (show 0<ltok (lvPut S.lv ((o:Int)*256) ⟨(n:Int)*256, -1,ar⟩) j y from h0) with h3|⟨h3,h4⟩
   ·exact .inl ⟨.liv,h3⟩
   ·exact .inr (by omega)
  |cac u=>exact .inl ⟨.cac u,by show 0<if u<P.nt then ctok (S.C u) j y else 0;rw[<-e2];exact h0⟩
  |han u=>exact .inl ⟨.han u,by show 0<if u<P.nt then htok (S.H u) j y else 0;rw[<-e3];exact h0⟩
  |tra u=>exact .inl ⟨.tra u,by show 0<if u<P.na/\0<=j/\j<P.T.length then xtok (S.X u j.toNat) y else 0;rw[<-e1];exact h0⟩
 |find h1 h2=>
  rename_i a b
  refine h.of fun hd j y h0=>?_
  rcases h2 with ⟨c,rfl,rfl⟩|⟨c,rfl,v,v',rfl⟩
  ·cases hd with
   |liv=>exact .inl ⟨.liv,ltok_delle (show 0<ltok (lvDel S.lv a) j y from h0)⟩
   |cac u=>exact .inl ⟨.cac u,h0⟩
   |han u=>exact .inl ⟨.han u,h0⟩
   |tra u=>exact .inl ⟨.tra u,h0⟩
  ·by_cases e2:hd=.han t
   ·subst e2
    rw[tk_han ht] at h0
    replace h0:0<htok (upd S.H t (S.H t++[⟨b.cls.toNat,v,[a]⟩]) t) j y:=h0
    rw[upd_at,htok_append,htok_one] at h0
    by_cases e:j=(b.cls.toNat:Int)
    ·rw[if_pos e] at h0
     by_cases c2:0<htok (S.H t) j y
     ·exact .inl ⟨.han t,by rw[tk_han ht];exact c2⟩
     ·have hy:y=a:=by simpa using count_mem (l:=[a]) (y:=y) (by omega)
      refine .inl ⟨.liv,?_⟩
      show 0<ltok S.lv j y
      unfold ltok
      rw[hy,h1]
      dsimp only
      rw[if_pos ⟨by omega,by omega⟩]
      omega
    ·rw[if_neg e] at h0
     exact .inl ⟨.han t,by rw[tk_han ht];omega⟩
   ·by_cases e1:hd=.liv
    ·subst e1
     exact .inl ⟨.liv,ltok_delle (show 0<ltok (lvDel S.lv a) j y from h0)⟩
    ·(refine .inl ⟨hd,Nat.lt_of_lt_of_le h0 ?_⟩;refine tk_e3 (h1:=.han t) (h2:=.liv) ?_ ?_ ?_ ?_ hd e2 e1 j y;exact fun u n1 _=>rfl;exact fun u n1 _=>upd_ne (ne_han n1);exact fun _ _ _ _=>rfl;exact fun _ n2=>absurd rfl n2)
 |put h1 h2 h3=>
  rename_i k a C' v L
  obtain⟨hk,v0,hH⟩:=hph
  have hx:∀j y,0<ctok C' j y+htok L j y->∃h',0<tkH P S h' j y:=fun j y hh=>by
   have:=h1 j y
   by_cases c:0<ctok (S.C t) j y
   ·exact⟨.cac t,by rw[tk_cac ht];exact c⟩
   ·have h4:0<one1 (k:Int) a j y:=by omega
    unfold one1 at h4
    split at h4
    ·rename_i e
     refine⟨.han t,?_⟩
     rw[tk_han ht,hH,htok_one,if_pos e.1,e.2]
     simp
    ·omega
  refine h.of fun hd j y h0=>?_
  by_cases e1:hd=.cac t
  ·subst e1
   rw[tk_cac ht] at h0
   replace h0:0<ctok (upd S.C t C' t) j y:=h0
   rw[upd_at] at h0
   exact .inl (hx j y (by omega))
  ·by_cases e2:hd=.han t
   ·subst e2
    rw[tk_han ht] at h0
    replace h0:0<htok (upd S.H t L t) j y:=h0
    rw[upd_at] at h0
    exact .inl (hx j y (by omega))
   ·(refine .inl ⟨hd,Nat.lt_of_lt_of_le h0 ?_⟩;refine tk_e3 (h1:=.cac t) (h2:=.han t) ?_ ?_ ?_ ?_ hd e1 e2 j y;exact fun u n1 _=>upd_ne (ne_cac n1);exact fun u _ n2=>upd_ne (ne_han n2);exact fun _ _ _ _=>rfl;exact fun _ _=>rfl)
 |back h1 h2=>
  rename_i b L v
  have hx:∀j y,0<htok L j y->0<tkH P S (.han t) j y:=fun j y hh=>by rw[tk_han ht,h1,htok];omega
  rcases h2 with ⟨b',rfl⟩|⟨pl,B',L',e1,e2,rfl⟩
  ·refine h.of fun hd j y h0=>?_
   by_cases e1:hd=.han t
   ·subst e1
    rw[tk_han ht] at h0
    replace h0:0<htok (upd S.H t L t) j y:=h0
    rw[upd_at] at h0
    exact .inl ⟨_,hx j y h0⟩
   ·by_cases e2:hd=.tra (t%P.na)
    ·subst e2
     replace h0:0<(if t%P.na<P.na/\0<=j/\j<P.T.length then xtok (upd2 S.X (t%P.na) b.k (S.X (t%P.na) b.k++[(b',b.o)]) (t%P.na) j.toNat) y else 0):=h0
     by_cases c:t%P.na<P.na/\0<=j/\j<P.T.length
     ·rw[if_pos c] at h0
      by_cases e:j.toNat=b.k
      ·rw[e,upd2_at,xtok_append] at h0
       simp only[xtok,Nat.add_zero] at h0
       by_cases c2:0<xtok (S.X (t%P.na) b.k) y
       ·refine .inl ⟨.tra (t%P.na),?_⟩
        show 0<if _ then _ else _
        rw[if_pos c,e];exact c2
       ·refine .inl ⟨.han t,?_⟩
        rw[tk_han ht,h1,htok,if_pos (by omega)]
        omega
      ·rw[upd2_ne (fun x=>e x.2)] at h0
       refine .inl ⟨.tra (t%P.na),?_⟩
       show 0<if _ then _ else _
       rw[if_pos c];exact h0
     ·rw[if_neg c] at h0;omega
    ·(refine .inl ⟨hd,Nat.lt_of_lt_of_le h0 ?_⟩;refine tk_e3 (h1:=.han t) (h2:=.tra (t%P.na)) ?_ ?_ ?_ ?_ hd e1 e2 j y;exact fun _ _ _=>rfl;exact fun u n1 _=>upd_ne (ne_han n1);exact fun a _ n2 j=>upd2_ne (fun e=>ne_tra n2 e.1);exact fun _ _=>rfl)
  ·refine h.of fun hd j y h0=>?_
   by_cases e1:hd=.han t
   ·subst e1
    rw[tk_han ht] at h0
    replace h0:0<htok (upd S.H t L t) j y:=h0
    rw[upd_at] at h0
    exact .inl ⟨_,hx j y h0⟩
   ·(refine .inl ⟨hd,Nat.lt_of_lt_of_le h0 ?_⟩;refine tk_e3 (h1:=.han t) (h2:=.han t) ?_ ?_ ?_ ?_ hd e1 e1 j y;exact fun _ _ _=>rfl;exact fun u n1 _=>upd_ne (ne_han n1);exact fun _ _ _ _=>rfl;exact fun _ _=>rfl)
 |giveNo h1=>exact h
 |giveYes h1 h2 h3=>exact h.congr (tkH_congr rfl rfl rfl rfl)
 |drain h1 h2 h3=>
  rename_i C' v L
  refine h.of fun hd j y h0=>?_
  have h1':=h1 j y
  by_cases e1:hd=.cac t
  ·subst e1
   rw[tk_cac ht] at h0
   replace h0:0<ctok (upd S.C t C' t) j y:=h0
   rw[upd_at] at h0
   exact .inl ⟨.cac t,by rw[tk_cac ht];omega⟩
  ·by_cases e2:hd=.han t
   ·subst e2
    rw[tk_han ht] at h0
    replace h0:0<htok (upd S.H t L t) j y:=h0
    rw[upd_at] at h0
    exact .inl ⟨.cac t,by rw[tk_cac ht];omega⟩
   ·(refine .inl ⟨hd,Nat.lt_of_lt_of_le h0 ?_⟩;refine tk_e3 (h1:=.cac t) (h2:=.han t) ?_ ?_ ?_ ?_ hd e1 e2 j y;exact fun u n1 _=>upd_ne (ne_cac n1);exact fun u _ n2=>upd_ne (ne_han n2);exact fun _ _ _ _=>rfl;exact fun _ _=>rfl)
def Wd (m m':V.SpM):Prop:=m'.n=m.n/\∀x,m.st x≠0->m'.st x≠0/\∀j,j/32=x->m'.h j=m.h j
theorem Wd.refl (m:V.SpM):Wd m m:=⟨rfl,fun x h=>⟨h,fun _ _=>rfl⟩⟩
theorem Wd.of_grw {m m':V.SpM} (h:m'=m\/∃s:Nat,m'=m.setR s 16 1/\∀x:Int,s<=x->x<s+16->m.st x=0):Wd m m':=by
 rcases h with rfl|⟨s,rfl,h⟩
 ·exact Wd.refl _
 ·refine⟨rfl,fun x hx=>?_⟩
  have hn:¬((s:Int)<=x/\x<s+16):=fun c=>hx (h x c.1 c.2)
  constructor
  ·show(if(s:Int)<=x/\x<s+16 then(1:Int) else m.st x)≠0
   rw[if_neg hn];exact hx
  ·rintro j rfl
   show(if(s:Int)<=j/32/\j/32<s+16 then(0:Int) else m.h j)=m.h j
   rw[if_neg hn]
theorem PStep.wd {P:Hp} {S:HS} {t:Nat} {p p':Ph} {S':HS} {r:Int×Int} (h:PStep P S t p S' p' r):Wd S.sp S'.sp:=by
 cases h with
 |growNo h1 _=>obtain⟨_,_,_,_,_,⟨S1,h2,e⟩,_⟩:=h1.same;exact e▸Wd.of_grw h2.sp
 |growYes h1=>obtain⟨_,_,_,_,_,⟨S1,h2,e⟩,_⟩:=h1.same;exact e▸Wd.of_grw h2.sp
 |largeNo h1=>obtain⟨_,_,_,_,_,_,S1,h2,e⟩:=h1.same;exact e▸Wd.of_grw h2.sp
 |largeYes h1 _=>
  obtain⟨_,_,_,_,_,_,S1,h2,e⟩:=h1.same
  have:=Wd.of_grw h2.sp
  rw[<-e] at this
  exact this
 |find h1 h2=>rcases h2 with ⟨_,_,rfl⟩|⟨_,_,_,_,rfl⟩<;>exact Wd.refl _
 |back h1 h2=>rcases h2 with ⟨_,rfl⟩|⟨_,_,_,_,_,rfl⟩<;>exact Wd.refl _
 |_=>exact Wd.refl _
theorem PStep.oth {P:Hp} {S:HS} {t:Nat} {p p':Ph} {S':HS} {r:Int×Int} (h:PStep P S t p S' p' r):S'.ph=S.ph/\∀u,u≠t->S'.H u=S.H u:=by
 cases h with
 |growNo h1 _=>obtain⟨_,_,e3,e4,_⟩:=h1.same;exact⟨e4,fun u _=>by rw[e3]⟩
 |growYes h1=>obtain⟨_,_,e3,e4,_⟩:=h1.same;exact⟨e4,fun u _=>by rw[e3]⟩
 |largeNo h1=>obtain⟨_,_,_,e3,e4,_⟩:=h1.same;exact⟨e4,fun u _=>by rw[e3]⟩
 |largeYes h1 _=>obtain⟨_,_,_,e3,e4,_⟩:=h1.same;exact⟨e4,fun u _=>congrFun e3 u⟩
 |find h1 h2=>rcases h2 with ⟨_,_,rfl⟩|⟨_,_,_,_,rfl⟩<;>exact⟨rfl,fun u hu=>by first|rfl|exact upd_ne hu⟩
 |back h1 h2=>rcases h2 with ⟨_,rfl⟩|⟨_,_,_,_,_,rfl⟩<;>exact⟨rfl,fun u hu=>upd_ne hu⟩
 |moveHit _=>exact⟨rfl,fun u hu=>upd_ne hu⟩
 |centHit _=>exact⟨rfl,fun u hu=>upd_ne hu⟩
 |fill _ _ _ _=>exact⟨rfl,fun u hu=>upd_ne hu⟩
 |put _ _ _=>exact⟨rfl,fun u hu=>upd_ne hu⟩
 |drain _ _ _=>exact⟨rfl,fun u hu=>upd_ne hu⟩
 |_=>exact⟨rfl,fun u hu=>rfl⟩
def clsI (T:List Z.Cl) (z:Int):Nat:=T.findIdx (Z.fitsC z 8)
def usz (T:List Z.Cl) (z:Int):Int:=if clsI T z<T.length then(Z.cAt T (clsI T z)).s else(((z+255)/256).toNat:Int)*256
def Md (P:Hp) (S:HS) (t:Nat):Opr->Ph->Prop
 | .malloc z,.take k=>k=clsI P.T z/\k<P.T.length
 | .malloc z,.transfer k _=>k=clsI P.T z/\k<P.T.length
 | .malloc z,.central k _=>k=clsI P.T z/\k<P.T.length
 | .malloc z,.grow k _=>k=clsI P.T z/\k<P.T.length
 | .malloc z,.fill=>∃b,S.H t=[b]/\b.k=clsI P.T z/\b.k<P.T.length
 | .malloc z,.large n=>n=((z+255)/256).toNat/\¬clsI P.T z<P.T.length
 | .free a,.find x=>x=a
 | .free _,.put _ _=>True
 | .free _,.back=>True
 | .free _,.give _ _=>True
 | .flush,.drain=>True
 | .flush,.back=>True
 |_,_=>False
theorem Md.first (P:Hp) (S:HS) (t:Nat) (o:Opr):Md P S t o (phOf P.T o):=by
 cases o with
 |malloc z=>
  unfold phOf
  dsimp only
  by_cases h:P.T.findIdx (Z.fitsC z 8)<P.T.length
  ·rw[if_pos h];exact⟨rfl,h⟩
  ·rw[if_neg h];exact⟨rfl,h⟩
 |free a=>exact rfl
 |flush=>exact trivial
theorem Md.congr {P:Hp} {S S':HS} {t:Nat} {o:Opr} {p:Ph} (h:Md P S t o p) (hH:S'.H t=S.H t):Md P S' t o p:=by
 cases o<;>cases p<;>first|exact h|(obtain⟨b,h1,h2⟩:=h;exact⟨b,hH.trans h1,h2⟩)
inductive LvC (P:Hp) (S S':HS) (p p':Ph) (x er:Int):Opr->Prop
 |born {z:Int} {b:Bk}:p'=.none->er=0->S.lv x=none->S'.lv=lvPut S.lv x b->b.size=usz P.T z->LvC P S S' p p' x er (.malloc z)
 |fail {z:Int}:p'=.none->er≠0->x=0->S'.lv=S.lv->LvC P S S' p p' x er (.malloc z)
 |mid {o:Opr}:(∀z,o=.malloc z->p'≠ .none)->S'.lv=S.lv->LvC P S S' p p' x er o
 |del {a:Int}:p=.find a->S'.lv=lvDel S.lv a->LvC P S S' p p' x er (.free a)
theorem one1_self (k a:Int):one1 k a k a=1:=if_pos ⟨rfl,rfl⟩
theorem ifb {L:List HB} (h:(if L=[] then Ph.none else Ph.back)≠ .none):(if L=[] then Ph.none else Ph.back)=.back:=by
 split at h
 ·exact absurd rfl h
 ·rename_i e;rw[if_neg e]
theorem Md.step {P:Hp} (hT:Z.isTable P.T) (hna:1<=P.na) {S:HS} {who:Who} (hI:Inv P S who) {t:Nat} (ht:t<P.nt) {p p':Ph} {S':HS} {x er:Int} {o:Opr} (hp:S.ph t=p) (hm:Md P S t o p) (hs:PStep P S t p S' p' (x,er)):
 (p'≠ .none->Md P S' t o p')/\LvC P S S' p p' x er o:=by
 have hph:=hI.phs t ht
 rw[hp] at hph
 generalize hr:((x,er):Int×Int)=r at hs
 cases hs with
 |takeHit h1 h2=>
  rename_i k C' a ar
  injection hr with e1 e2
  subst e1 e2
  cases o with
  |malloc z=>
   obtain⟨m1,m2⟩:=hm
   refine⟨fun h=>absurd rfl h,.born rfl rfl (hI.notLive hT (hd:=.cac t) (by simp) (k:=k) ?_) rfl ?_⟩
   ·rw[tk_cac ht]
    have:=h1 k x
    rw[one1_self] at this
    omega
   ·show(Z.cAt P.T k).s=_
    unfold usz
    rw[if_pos (m1▸m2),m1]
  |free _=>exact hm.elim
  |flush=>exact hm.elim
 |takeMiss h1 h2 h3=>
  cases o with
  |malloc z=>exact⟨fun _=>hm,.mid (fun _ _=>by simp) rfl⟩
  |free _=>exact hm.elim
  |flush=>exact hm.elim
 |moveHit h1=>
  rename_i k n b v v'
  cases o with
  |malloc z=>
   refine⟨fun _=>⟨⟨k,v,b.2⟩,?_,hm⟩,.mid (fun _ _=>by simp) rfl⟩
   show upd S.H t (S.H t++[⟨k,v,b.2⟩]) t=_
   rw[upd_at,hph.2.2.2];rfl
  |free _=>exact hm.elim
  |flush=>exact hm.elim
 |moveMiss=>
  cases o with
  |malloc z=>exact⟨fun _=>hm,.mid (fun _ _=>by simp) rfl⟩
  |free _=>exact hm.elim
  |flush=>exact hm.elim
 |centHit h1=>
  rename_i k n v v'
  cases o with
  |malloc z=>
   refine⟨fun _=>⟨⟨k,v,(takesTo (S.M (t%P.na) k) n.toNat).1⟩,?_,hm⟩,.mid (fun _ _=>by simp) rfl⟩
   show upd S.H t (S.H t++[⟨k,v,_⟩]) t=_
   rw[upd_at,hph.2.2.2];rfl
  |free _=>exact hm.elim
  |flush=>exact hm.elim
 |centMiss h1=>
  cases o with
  |malloc z=>exact⟨fun _=>hm,.mid (fun _ _=>by simp) rfl⟩
  |free _=>exact hm.elim
  |flush=>exact hm.elim
 |growNo h1 h2=>
  injection hr with e1 e2
  subst e1 e2
  obtain⟨_,_,_,_,e5,_⟩:=h1.same
  cases o with
  |malloc z=>exact⟨fun h=>absurd rfl h,.fail rfl h2 rfl e5⟩
  |free _=>exact hm.elim
  |flush=>exact hm.elim
 |growYes h1=>
  obtain⟨_,_,_,_,e5,_⟩:=h1.same
  cases o with
  |malloc z=>exact⟨fun _=>hm,.mid (fun _ _=>by simp) e5⟩
  |free _=>exact hm.elim
  |flush=>exact hm.elim
 |fill h1 h2 h3 h4=>
  rename_i b x' xs C' ar
  injection hr with e1 e2
  subst e1 e2
  cases o with
  |malloc z=>
   obtain⟨b',m0,m1,m2⟩:=hm
   rw[h1] at m0
   injection m0 with m0 _
   subst m0
   refine⟨fun h=>absurd rfl h,.born rfl rfl (hI.notLive hT (hd:=.han t) (by simp) (k:=b.k) ?_) rfl ?_⟩
   ·rw[tk_han ht,h1]
    simp[htok,h2]
   ·show(Z.cAt P.T b.k).s=_
    unfold usz
    rw[if_pos (m1▸m2),m1]
  |free _=>exact hm.elim
  |flush=>exact hm.elim
 |largeNo h1=>
  injection hr with e1 e2
  subst e1 e2
  obtain⟨_,_,_,_,_,e5,_⟩:=h1.same
  cases o with
  |malloc z=>exact⟨fun h=>absurd rfl h,.fail rfl (by decide) rfl e5⟩
  |free _=>exact hm.elim
  |flush=>exact hm.elim
 |largeYes h1 h2=>
  rename_i n o' ar S2
  injection hr with e1 e2
  subst e1 e2
  cases o with
  |malloc z=>
   obtain⟨m1,m2⟩:=hm
   refine⟨fun h=>absurd rfl h,.born rfl rfl (hI.largeYes hT hna ht hp h1 h2).1 rfl ?_⟩
   show(n:Int)*256=_
   unfold usz
   rw[if_neg m2,<-m1]
  |free _=>exact hm.elim
  |flush=>exact hm.elim
 |find h1 h2=>
  cases o with
  |malloc z=>exact hm.elim
  |free a'=>
   obtain rfl:_=a':=hm
   rcases h2 with ⟨c,rfl,rfl⟩|⟨c,rfl,v,v',rfl⟩
   ·exact⟨fun _=>trivial,.del rfl rfl⟩
   ·exact⟨fun _=>trivial,.del rfl rfl⟩
  |flush=>exact hm.elim
 |put h1 h2 h3=>
  cases o with
  |malloc z=>exact hm.elim
  |free a'=>exact⟨fun h=>by rw[ifb h];exact trivial,.mid (fun _ e=>by cases e) rfl⟩
  |flush=>exact hm.elim
 |back h1 h2=>
  cases o with
  |malloc z=>exact hm.elim
  |free a'=>exact⟨fun h=>by rw[ifb h];exact trivial,.mid (fun _ e=>by cases e) (by rcases h2 with ⟨_,rfl⟩|⟨_,_,_,_,_,rfl⟩<;>rfl)⟩
  |flush=>exact⟨fun h=>by rw[ifb h];exact trivial,.mid (fun _ e=>by cases e) (by rcases h2 with ⟨_,rfl⟩|⟨_,_,_,_,_,rfl⟩<;>rfl)⟩
 |giveNo h1=>
  cases o with
  |malloc z=>exact hm.elim
  |free a'=>exact⟨fun h=>absurd rfl h,.mid (fun _ e=>by cases e) rfl⟩
  |flush=>exact hm.elim
 |giveYes h1 h2 h3=>
  cases o with
  |malloc z=>exact hm.elim
  |free a'=>exact⟨fun h=>absurd rfl h,.mid (fun _ e=>by cases e) rfl⟩
  |flush=>exact hm.elim
 |drain h1 h2 h3=>
  cases o with
  |malloc z=>exact hm.elim
  |free a'=>exact hm.elim
  |flush=>exact⟨fun h=>by rw[ifb h];exact trivial,.mid (fun _ e=>by cases e) rfl⟩
theorem Inv.lown {P:Hp} (hT:Z.isTable P.T) {S:HS} {who:Who} (h:Inv P S who) {a:Int} {b:Bk} (hb:S.lv a=some b):∃o,o≠ .spc/\Has who o a b.size/\8<=b.size/\(((∃k,o=.tok .liv k a)/\0<tkH P S .liv b.cls a)\/∃A s,o=.big A s/\a=s*256):=by
 rcases Int.lt_or_le b.cls 0 with hc|hc
 ·obtain⟨_,_,_,A,s,p,hA,e1,e2,e4,e3⟩:=h.l.lrg a b hb hc
  have hp1:=(h.c.run A s p hA e2).1
  exact⟨.big A s,by simp,by rw[e4];exact e3,by omega,.inr ⟨A,s,rfl,e1⟩⟩
 ·have hl:0<tkH P S .liv b.cls a:=by
   show 0<ltok S.lv b.cls a
   unfold ltok
   rw[hb]
   simp[hc]
  obtain⟨_,p1,p2,p3⟩:=h.tk .liv b.cls a hl
  have hz:=(h.l.sml a b hb hc).2
  exact⟨_,by simp,by rw[hz];exact p3,by rw[hz];exact(szK_pos hT p1 p2).1,.inl ⟨⟨_,rfl⟩,hl⟩⟩
theorem Inv.lrange {P:Hp} (hT:Z.isTable P.T) {S:HS} {who:Who} (h:Inv P S who) (hal:Al P S) {a:Int} {b:Bk} (hb:S.lv a=some b):4096<=a/\a+b.size<=65536/\a%8=0/\8<=b.size/\∀y,a<=y->y<a+b.size->S.sp.st (y/256)≠0:=by
 obtain⟨o,h1,h2,h3,h4⟩:=h.lown hT hb
 have hin:∀y,a<=y->y<a+b.size->(0<=y/\y<65536)/\S.sp.st (y/256)≠0:=fun y y1 y2=>by
  obtain⟨q1,q2,_⟩:=h.c.inr_ (a:=y) (by rw[h2 y y1 y2];exact h1)
  exact⟨q1,q2⟩
 refine⟨?_,?_,?_,h3,fun y y1 y2=>(hin y y1 y2).2⟩
 ·obtain⟨q1,q2⟩:=hin a (Int.le_refl _) (by omega)
  rcases Int.lt_or_le a 4096 with c|c
  ·exact absurd (h.c.lo (a/256) (by omega)) q2
  ·exact c
 ·have:=(hin (a+b.size-1) (by omega) (by omega)).1
  omega
 ·rcases h4 with ⟨_,h4⟩|⟨A,s,_,h4⟩
  ·exact hal _ _ _ h4
  ·omega
theorem Inv.lapart {P:Hp} (hT:Z.isTable P.T) {S:HS} {who:Who} (h:Inv P S who) {a a':Int} {b b':Bk} (hb:S.lv a=some b) (hb':S.lv a'=some b') (hne:a≠a'):a+b.size<=a'\/a'+b'.size<=a:=by
 obtain⟨o,h1,h2,h3,h4⟩:=h.lown hT hb
 obtain⟨o',h1',h2',h3',h4'⟩:=h.lown hT hb'
 refine h2.apart h2' (fun e=>?_) (by omega) (by omega)
 rcases h4 with ⟨⟨k,h4⟩,_⟩|⟨A,s,h4,h5⟩
 ·rcases h4' with ⟨⟨k',h4'⟩,_⟩|⟨A',s',h4',h5'⟩
  ·rw[h4,h4'] at e;injection e with _ _ e;exact hne e
  ·rw[h4,h4'] at e;cases e
 ·rcases h4' with ⟨⟨k',h4'⟩,_⟩|⟨A',s',h4',h5'⟩
  ·rw[h4,h4'] at e;cases e
  ·rw[h4,h4'] at e;injection e with _ e;exact hne (by rw[h5,h5',e])
theorem acc_zero {m:V.SpM} {addr:Int} (h0:0<=addr) (h8:addr%8=0) (hn:addr/256<m.n) (hst:m.st (addr/256)≠0):m.acc addr 1=0:=by
 have hl:V.lastP addr 1=addr/256:=by unfold V.lastP;omega
 unfold V.SpM.acc
 rw[if_neg (by decide),if_neg (by omega),hl,if_neg (by omega),if_neg]
 rw[V.anyTo_true]
 rintro ⟨i,hi,h⟩
 have:i=0:=by omega
 subst this
 have e:(((addr/256).toNat:Int)+((0:Nat):Int))=addr/256:=by omega
 rw[e] at h
 exact hst (by simpa using h)
theorem Inv.lacc {P:Hp} (hT:Z.isTable P.T) {S:HS} {who:Who} (h:Inv P S who) (hal:Al P S) {a:Int} {b:Bk} (hb:S.lv a=some b) {w:Int} (h0:0<=w) (h1:w*8+8<=b.size):S.sp.acc (a+w*8) 1=0:=by
 obtain⟨r1,r2,r3,r4,r5⟩:=h.lrange hT hal hb
 refine acc_zero (by omega) (by omega) ?_ (r5 _ (by omega) (by omega))
 rw[h.c.n]
 show(a+w*8)/256<(256:Int)
 omega
theorem Inv.write {P:Hp} {S:HS} {who:Who} (h:Inv P S who) (addr v:Int):Inv P {S with sp:=S.sp.writeM addr v} who:=by
 by_cases hacc:S.sp.acc addr 1=0
 ·have e:S.sp.writeM addr v=S.sp.putW (addr/8) v:=by unfold V.SpM.writeM;rw[if_pos hacc]
  obtain⟨_,_,_,hst⟩:=V.SpM.acc_ok (by decide) hacc
  have hs:=hst (addr/8) (Int.le_refl _) (by omega)
  have hne:∀x,(S.sp.putW (addr/8) v).st x≠0↔S.sp.st x≠0:=fun x=>by
   show(if x=addr/8/32 then(2:Int) else S.sp.st x)≠0↔_
   by_cases c:x=addr/8/32
   ·rw[if_pos c,c];exact⟨fun _=>hs,fun _=>by decide⟩
   ·rw[if_neg c]
  rw[e]
  refine⟨{h.c with n:=h.c.n,spc:=fun b=>?_,lo:=fun x hx=>?_},h.tk,h.l,h.trb,h.hok,fun t ht=>?_,h.fnd⟩
  ·rw[h.c.spc b]
   show _↔¬(0<=b/\b<65536/\(S.sp.putW (addr/8) v).st (b/256)≠0)
   rw[hne]
  ·exact Decidable.not_not.1 (fun c=>(hne x).1 c (h.c.lo x hx))
  ·have:=h.phs t ht
   show PhOk P _ who t (S.ph t)
   cases hp:S.ph t<;>rw[hp] at this<;>exact this
 ·have e:S.sp.writeM addr v=S.sp:=by unfold V.SpM.writeM;rw[if_neg hacc]
  rw[e]
  exact h
theorem Al.write {P:Hp} {S:HS} (h:Al P S) (addr v:Int):Al P {S with sp:=S.sp.writeM addr v}:=h.congr (tkH_congr rfl rfl rfl rfl)
end Go.Proofs.YtcidjimefnhacaaGreatDoor
