/- TopSchedules, a part of the proof: Ph, Pi, Pj, Pk, Pl. -/
import Derived.Test.YtcidjimefnhacaaGreatDoorM32
set_option linter.unusedVariables false
set_option linter.unusedSimpArgs false
namespace Go.Proofs.YtcidjimefnhacaaGreatDoor
open Go.RowKit
theorem Inv.giveNo {P:Hp} {S:HS} {who:Who} (h:Inv P S who) {t:Nat} {s A:Int} (ht:t<P.nt) (hp:S.ph t=.give s A):Inv P (HS.phs S t .none) who:=by
 have:=h.phs t ht
 rw[hp] at this
 exact h.stay (p':=.none) this.1 (by simp)
theorem Inv.giveYes {P:Hp} {S:HS} {who:Who} (h:Inv P S who) {t:Nat} {s A p:Int} (ht:t<P.nt) (hp:S.ph t=.give s A) (hR:S.R A.toNat s=some p) {B':Nat->Int->Bool} {L':Nat->Int} (hB:∀x,bF B' x↔bF (S.B A.toNat) x\/(s<=x/\x<s+p)) (hL:SameL (S.L A.toNat) L'):
 ∃who',Inv P (HS.phs (({S with R:=upd S.R A.toNat (fun j=>if j=s then none else S.R A.toNat j)}:HS).bk A.toNat B' L') t .none) who':=by
 have hph:=h.phs t ht
 rw[hp] at hph
 obtain⟨hH,a2,a3,_,A2,p2,a5,a6,a7,a8⟩:=hph
 have hA:A.toNat<P.na:=by omega
 obtain⟨r1,r2⟩:=h.c.run _ s p hA hR
 have hgv:Has who (.giv t A.toNat s) (s*256) (p*256):=by
  rcases r2 with r2|⟨u,r2⟩
  ·have:=r2.eq a8 (s*256) (Int.le_refl _) (by omega) (Int.le_refl _) (by omega)
   cases this
  ·have:=r2.eq a8 (s*256) (Int.le_refl _) (by omega) (Int.le_refl _) (by omega)
   injection this with e1 e2 _
   rw[e1] at r2
   exact r2
 have hc:=h.c.give hA hgv hB hL
 have hRn:∀A2 s2 q,(A2,s2)≠(A.toNat,s)->S.R A2 s2=some q->upd S.R A.toNat (fun j=>if j=s then none else S.R A.toNat j) A2 s2=some q:=by
  intro A2 s2 q hne hq
  by_cases e:A2=A.toNat
  ·subst e
   rw[upd_at,if_neg (fun e=>hne (by rw[e]))]
   exact hq
  ·rw[upd_ne e];exact hq
 obtain⟨q1,q2⟩:=h.others (S':=HS.phs (({S with R:=upd S.R A.toNat (fun j=>if j=s then none else S.R A.toNat j)}:HS).bk A.toNat B' L') t .none) (who':=mv who (s*256) (p*256) (.bud A.toNat)) (t:=t) (p':=.none) rfl hH (fun u _=>rfl) (fun u x _ _ _ hx=>hx) (fun u A3 s3 q hne _ hq1 h1 h2=>⟨hRn A3 s3 q (fun e=>by
  injection e with e1 e2
  subst e1 e2
  have:=hgv.eq h2 (s3*256) (Int.le_refl _) (by omega) (Int.le_refl _) (by omega)
  injection this with e _ _
  exact hne e.symm) h1,h2.mv hgv (by intro e;injection e with e _ _;exact hne e)⟩) (by simp)
 refine⟨_,hc,fun hd=>(h.tk hd).mv hgv (by simp),⟨h.l.sml,fun x b hb hc=>?_⟩,h.trb,h.hok,q1,q2⟩
 obtain⟨d1,d2,d3,A3,s3,q,d4,d5,d6,d7,d8⟩:=h.l.lrg x b hb hc
 have hq1:=(h.c.run A3 s3 q d4 d6).1
 refine⟨d1,d2,d3,A3,s3,q,d4,d5,hRn A3 s3 q (fun e=>?_) d6,d7,d8.mv hgv (by simp)⟩
 injection e with e1 e2
 subst e1 e2
 have:=hgv.eq d8 (s3*256) (Int.le_refl _) (by omega) (by omega) (by omega)
 cases this
def fgiv (t A:Nat) (s:Int) (o:Ow):Ow:=if o=.big A s then .giv t A s else o
theorem fgiv_no {t A:Nat} {s:Int} {o:Ow} (h:o≠ .big A s):fgiv t A s o=o:=if_neg h
theorem fgiv_iff {t A:Nat} {s:Int} {o o':Ow} (h:o'≠ .giv t A s) (h2:o'≠ .big A s):fgiv t A s o=o'↔o=o':=by
 unfold fgiv
 split
 ·rename_i e
  subst e
  exact⟨fun x=>absurd x.symm h,fun x=>absurd x.symm h2⟩
 ·exact Iff.rfl
theorem Inv.findL {P:Hp} {S:HS} {who:Who} (h:Inv P S who) {t:Nat} {a:Int} (ht:t<P.nt) (hp:S.ph t=.find a) {b:Bk} (hb:S.lv a=some b) (hc:b.cls<0):∃who',Inv P (HS.phs {S with lv:=lvDel S.lv a} t (.give (a/256) b.ar)) who':=by
 have hph:=h.phs t ht
 rw[hp] at hph
 obtain⟨d1,d2,d3,A,s,p,d4,d5,d6,d7,d8⟩:=h.l.lrg a b hb hc
 obtain⟨r1,_⟩:=h.c.run A s p d4 d6
 have hs:a/256=s:=by omega
 have hrg:0<=a/\a<65536:=by
  have h1:=d8 a (Int.le_refl _) (by omega)
  have h2:=h.c.spc a
  rw[h1] at h2
  simp at h2
  exact⟨h2.1,h2.2.1⟩
 have hng:∀{o:Ow} {x n:Int},Has who o x n->o≠ .big A s->Has (ren (fgiv t A s) who) o x n:=fun hx ho=>hx.ren_ (fgiv_no ho)
 obtain⟨q1,q2⟩:=h.others (S':=HS.phs {S with lv:=lvDel S.lv a} t (.give (a/256) b.ar)) (who':=ren (fgiv t A s) who) (t:=t) (p':=.give (a/256) b.ar) rfl ⟨hph.1,d3,d2,by unfold I64;omega,A,p,d4,r1,by rw[hs];exact d6,by
  rw[hs,<-d5]
  have:=d8.ren (fgiv t A s)
  rwa[show fgiv t A s (.big A s)=.giv t A s from if_pos rfl] at this⟩ (fun u _=>rfl) (fun u x hu hne hpu hx=>by
   show lvDel S.lv a x≠none
   unfold lvDel
   by_cases e:x=a
   ·subst e;exact absurd (h.fnd u t x hu ht hpu hp) hne
   ·rw[if_neg e];exact hx) (fun u A3 s3 q _ _ _ h1 h2=>⟨h1,hng h2 (by simp)⟩) (by simp)
 refine⟨_,⟨h.c.n,fun x k hx hk=>(h.c.cen x k hx hk).ren (fgiv_no (by simp)),fun x k hx hk y hy=>?_,fun x y hx hy=>hng (h.c.bud x y hx hy) (by simp),fun y=>(fgiv_iff (by simp) (by simp)).trans (h.c.spc y),h.c.lo,fun y hy=>h.c.own y (fun e=>hy ((fgiv_iff (by simp) (by simp)).2 e)),h.c.hugU,fun A3 s3 q hA hR=>?_,fun y h' k x e=>h.c.tin y h' k x (by
  replace e:fgiv t A s (who y)=_:=e
  exact(fgiv_iff (by simp) (by simp)).1 e),h.c.dis⟩,fun hd=>((h.tk hd).ren (fun k x _=>fgiv_no (by simp))).less (fun j y=>?_),⟨fun x b' hb' hc'=>(h.l.del a).sml x b' hb' hc',fun x b' hb' hc'=>?_⟩,h.trb,h.hok,q1,q2⟩
 ·rcases h.c.pgs x k hx hk y hy with e|⟨h',z,e⟩
  ·left;show fgiv t A s (who y)=_;rw[e];exact fgiv_no (by simp)
  ·right;exact⟨h',z,by show fgiv t A s (who y)=_;rw[e];exact fgiv_no (by simp)⟩
 ·obtain⟨e1,e2⟩:=h.c.run A3 s3 q hA hR
  refine⟨e1,?_⟩
  by_cases e:(A3,s3)=(A,s)
  ·injection e with x1 x2
   subst x1 x2
   right
   rcases e2 with e2|⟨u,e2⟩
   ·refine⟨t,?_⟩
    have:=e2.ren (fgiv t A3 s3)
    rwa[show fgiv t A3 s3 (.big A3 s3)=.giv t A3 s3 from if_pos rfl] at this
   ·exact⟨u,hng e2 (by simp)⟩
  ·exact e2.imp (fun x=>hng x (by intro c;injection c with c1 c2;exact e (by rw[c1,c2]))) (fun ⟨u,x⟩=>⟨u,hng x (by simp)⟩)
 ·cases hd with
  |liv=>
   show ltok (lvDel S.lv a) j y<=ltok S.lv j y
   rw[<-ltok_del hb]
   exact Nat.le_add_right _ _
  |_=>exact Nat.le_refl _
 ·obtain⟨f1,f2,f3,A3,s3,q,f4,f5,f6,f7,f8⟩:=(h.l.del a).lrg x b' hb' hc'
  refine⟨f1,f2,f3,A3,s3,q,f4,f5,f6,f7,hng f8 (fun c=>?_)⟩
  injection c with c1 c2
  replace hb':lvDel S.lv a x=some b':=hb'
  unfold lvDel at hb'
  rw[if_pos (by rw[f5,d5,c2])] at hb'
  cases hb'
theorem CenOwn.takes2 {c:Cl} {M:List Sp} (hg:GoodL c M) {who:Who} {o:Ow} {g:Int->Ow} (hgo:∀x,g x≠o) (h:CenOwn c who o M) (n:Nat):
 GoodL c (takesTo M n).2/\Like (takesTo M n).2 M/\∃who',CenOwn c who' o (takesTo M n).2/\(takesTo M n).1.Nodup/\(∀x∈(takesTo M n).1,Has who' (g x) x c.size)/\(∀b,who b≠o->who' b=who b)/\∀b,who b=o->who' b=o\/∃x,who' b=g x/\x<=b/\b<x+c.size:=by
 induction n with
 |zero=>exact⟨hg,Like.refl _,who,h,List.nodup_nil,fun x hx=>absurd hx (by simp[takesTo]),fun _ _=>rfl,fun _ hb=>.inl hb⟩
 |succ n ih=>
  obtain⟨i1,i0,who',i2,i3,i4,i5,i6⟩:=ih
  cases hok:(one7 (takesTo M n).2).1.2 with
  |false=>rw[takesTo,if_neg (by rw[hok];decide)];exact⟨i1,i0,who',i2,i3,i4,i5,i6⟩
  |true=>
   rw[takesTo_more hok]
   obtain⟨b,hb,he⟩:=one7_some hok
   obtain⟨g1,g2,g3⟩:=TK_take i1 hb
   obtain⟨c1,c2⟩:=i2.take i1 hb (o2:=g (sAt (takesTo M n).2 b).take.1.1)
   have hs:=(i1.ok).1
   rw[he]
   dsimp only
   refine⟨g1,i0.set (Sp.take_like _),_,c2,?_,fun x hx=>?_,fun y hy=>?_,fun y hy=>?_⟩
   ·rw[List.nodup_append]
    refine⟨i3,by simp,fun x hx y hy e=>?_⟩
    simp at hy
    subst hy e
    exact hgo _ ((i4 _ hx).eq c1 _ (Int.le_refl _) (by omega) (Int.le_refl _) (by omega))
   ·rcases List.mem_append.1 hx with hx|hx
    ·exact(i4 x hx).mv c1 (hgo x)
    ·simp at hx
     subst hx
     exact mv_in _ _ _ _
   ·have h5:=i5 y hy
    rw[mv_out (fun hb=>hy (h5.symm.trans (c1 y hb.1 hb.2)))]
    exact h5
   ·by_cases e:(sAt (takesTo M n).2 b).take.1.1<=y/\y<(sAt (takesTo M n).2 b).take.1.1+c.size
    ·right;exact⟨_,if_pos e,e⟩
    ·rw[mv_out e];exact i6 y hy
theorem takesTo_nil {M:List Sp} (n:Nat) (h:(takesTo M n).1.length=0):(takesTo M n).2=M:=by
 induction n with
 |zero=>rfl
 |succ n ih=>
  rw[takesTo] at h ⊢
  split
  ·rename_i e
   rw[if_pos e,List.length_append] at h
   simp at h
  ·rename_i e
   rw[if_neg e] at h
   exact ih h
theorem Inv.centMiss {P:Hp} {S:HS} {who:Who} (h:Inv P S who) {t k:Nat} {n:Int} (ht:t<P.nt) (hp:S.ph t=.central k n) (hz:(takesTo (S.M (t%P.na) k) n.toNat).1.length=0):
 Inv P (HS.phs {S with M:=upd2 S.M (t%P.na) k (takesTo (S.M (t%P.na) k) n.toNat).2} t (.grow k n)) who:=by
 have hph:=h.phs t ht
 rw[hp] at hph
 rw[takesTo_nil _ hz,upd2_same]
 exact h.stay (p':=.grow k n) hph (by simp)
theorem Inv.centHit {P:Hp} {S:HS} {who:Who} (h:Inv P S who) (hna:1<=P.na) {t k:Nat} {n:Int} (ht:t<P.nt) (hp:S.ph t=.central k n) (hG:GoodL (P.cl k) (S.M (t%P.na) k)) (h0:0<(takesTo (S.M (t%P.na) k) n.toNat).1.length) {v v':Value}:
 ∃who',Inv P (HS.phs (({S with M:=upd2 S.M (t%P.na) k (takesTo (S.M (t%P.na) k) n.toNat).2}:HS).hnd t v' (S.H t++[⟨k,v,(takesTo (S.M (t%P.na) k) n.toNat).1⟩])) t .fill) who':=by
 have hph:=h.phs t ht
 rw[hp] at hph
 obtain⟨hk,hn1,hn2,hH⟩:=hph
 have ha:t%P.na<P.na:=Nat.mod_lt _ hna
 have hlen:=takesTo_len (S.M (t%P.na) k) n.toNat
 obtain⟨_,hlike,who',c1,c2,c3,c4,c5⟩:=CenOwn.takes2 hG (g:=fun x=>.tok (.han t) k x) (by simp) (h.c.cen _ k ha hk) n.toNat
 generalize (takesTo (S.M (t%P.na) k) n.toNat).1=l at *
 generalize (takesTo (S.M (t%P.na) k) n.toNat).2=M2 at *
 have hne:∀{o:Ow} {x n:Int},Has who o x n->o≠ .cen (t%P.na) k->Has who' o x n:=fun hx ho y y1 y2=>by rw[c4 y (by rw[hx y y1 y2];exact ho)];exact hx y y1 y2
 have hspc:∀b,who' b=.spc↔who b=.spc:=fun b=>by
  by_cases e:who b=.cen (t%P.na) k
  ·rcases c5 b e with e2|⟨x,e2,_⟩<;>rw[e,e2]<;>simp
  ·rw[c4 b e]
 have hpg:∀b j y,Pg (upd2 S.M (t%P.na) k M2 b j) y->Pg (S.M b j) y:=by
  intro b j y hy
  by_cases e:b=t%P.na/\j=k
  ·obtain⟨rfl,rfl⟩:=e
   rw[upd2_at] at hy
   exact(Pg.like hlike y).1 hy
  ·rw[upd2_ne e] at hy;exact hy
 rw[hH,List.nil_append]
 obtain⟨q1,q2⟩:=h.others (S':=HS.phs (({S with M:=upd2 S.M (t%P.na) k M2}:HS).hnd t v' [⟨k,v,l⟩]) t .fill) (who':=who') (t:=t) (p':=.fill) rfl ⟨⟨k,v,l⟩,upd_at⟩ (fun u hu=>upd_ne hu) (fun u x _ _ _ hx=>hx) (fun u A3 s3 q _ _ _ h1 h2=>⟨h1,hne h2 (by simp)⟩) (by simp)
 refine⟨who',⟨h.c.n,fun a j ha' hj=>?_,fun a j ha' hj y hy=>?_,fun a x ha' hx=>hne (h.c.bud a x ha' hx) (by simp),fun b=>(hspc b).trans (h.c.spc b),h.c.lo,fun b hb=>h.c.own b (fun e=>hb ((hspc b).2 e)),h.c.hugU,fun A3 s3 q hA hR=>?_,fun y h' j x e=>?_,fun b j b' j' y hb hj hb' hj' h1 h2=>h.c.dis b j b' j' y hb hj hb' hj' (hpg b j y h1) (hpg b' j' y h2)⟩,fun hd=>?_,⟨h.l.sml,fun x b hb hc=>?_⟩,h.trb,hok_hnd h.hok ?_,q1,q2⟩
 ·show CenOwn (P.cl j) who' (.cen a j) (upd2 S.M (t%P.na) k M2 a j)
  by_cases e:a=t%P.na/\j=k
  ·obtain⟨rfl,rfl⟩:=e
   rw[upd2_at];exact c1
  ·rw[upd2_ne e]
   intro y hy ht
   have:=h.c.cen a j ha' hj y hy ht
   rw[c4 y (by rw[this];intro c;injection c with c1 c2;exact e ⟨c1,c2⟩)]
   exact this
 ·replace hy:Pg (upd2 S.M (t%P.na) k M2 a j) y:=hy
  by_cases e:a=t%P.na/\j=k
  ·obtain⟨rfl,rfl⟩:=e
   rw[upd2_at] at hy
   rcases h.c.pgs _ j ha' hj y ((Pg.like hlike y).1 hy) with e|⟨h',x,e⟩
   ·exact(c5 y e).imp id (fun ⟨x,e,_⟩=>⟨_,x,e⟩)
   ·right;exact⟨h',x,by rw[c4 y (by rw[e];simp)];exact e⟩
  ·rw[upd2_ne e] at hy
   have:=h.c.pgs a j ha' hj y hy
   rw[c4 y (by
    rcases this with e2|⟨_,_,e2⟩<;>rw[e2]
    ·intro c;injection c with c1 c2;exact e ⟨c1,c2⟩
    ·simp)]
   exact this
 ·obtain⟨r1,r2⟩:=h.c.run A3 s3 q hA hR
  exact⟨r1,r2.imp (fun x=>hne x (by simp)) (fun ⟨u,x⟩=>⟨u,hne x (by simp)⟩)⟩
 ·by_cases e2:who y=.cen (t%P.na) k
  ·rcases c5 y e2 with e3|⟨z,e3,e4,e5⟩
   ·rw[e] at e3;cases e3
   ·rw[e] at e3
    injection e3 with _ x2 x3
    subst x2 x3
    exact⟨e4,e5⟩
  ·rw[c4 y e2] at e;exact h.c.tin y h' j x e
 ·by_cases e:hd=.han t
  ·subst e
   intro j y hj
   rw[tk_han ht] at hj ⊢
   replace hj:0<htok (upd S.H t [⟨k,v,l⟩] t) j y:=hj
   show htok (upd S.H t [⟨k,v,l⟩] t) j y=1/\_
   rw[upd_at,htok_one] at hj ⊢
   split at hj
   ·rename_i ej
    subst ej
    have hy:y∈l:=List.count_pos_iff.1 hj
    exact⟨by rw[if_pos rfl];have:=List.nodup_iff_count.1 c2 y;omega,by omega,by omega,c3 y hy⟩
   ·omega
  ·intro j y hj
   have e3:tkH P (HS.phs (({S with M:=upd2 S.M (t%P.na) k M2}:HS).hnd t v' [⟨k,v,l⟩]) t .fill) hd j y=tkH P S hd j y:=by
    cases hd with
    |han u=>
     show(if u<P.nt then htok (upd S.H t [⟨k,v,l⟩] u) j y else 0)=if u<P.nt then htok (S.H u) j y else 0
     rw[upd_ne (ne_han e)]
    |_=>rfl
   rw[e3] at hj ⊢
   obtain⟨a1,a2,a3,a4⟩:=h.tk hd j y hj
   exact⟨a1,a2,a3,hne a4 (by simp)⟩
 ·obtain⟨d1,d2,d3,A3,s3,q,d4,d5,d6,d7,d8⟩:=h.l.lrg x b hb hc
  exact⟨d1,d2,d3,A3,s3,q,d4,d5,d6,d7,hne d8 (by simp)⟩
 ·intro b hb
  rw[List.mem_singleton] at hb
  subst hb
  exact⟨hk,h0,by show l.length<=256;omega⟩
theorem zeroTo_map (M:List Sp) (k:Nat):∃f:Nat->Nat,(∀i,i<(zeroTo M k).length->f i<k/\(sAt M (f i)).many=0/\rAt (zeroTo M k) i=((sAt M (f i)).start,(sAt M (f i)).pages))/\(∀i j,i<j->j<(zeroTo M k).length->f i<f j)/\∀j,j<k->(sAt M j).many=0->∃i,i<(zeroTo M k).length/\f i=j:=by
 induction k with
 |zero=>exact⟨fun i=>i,fun i hi=>absurd hi (by simp[zeroTo]),fun i j _ hj=>absurd hj (by simp[zeroTo]),fun j hj=>absurd hj (Nat.not_lt_zero j)⟩
 |succ k ih=>
  obtain⟨f,h1,h2,h3⟩:=ih
  by_cases hz:(sAt M k).many=0
  ·have e:zeroTo M (k+1)=zeroTo M k++[((sAt M k).start,(sAt M k).pages)]:=by rw[zeroTo,if_pos hz]
   have el:(zeroTo M (k+1)).length=(zeroTo M k).length+1:=by rw[e];simp
   refine⟨fun i=>if i=(zeroTo M k).length then k else f i,fun i hi=>?_,fun i j hij hj=>?_,fun j hj hz2=>?_⟩
   ·by_cases c:i=(zeroTo M k).length
    ·simp only[if_pos c]
     refine⟨by omega,hz,?_⟩
     rw[e,c]
     simp[rAt,List.getD_eq_getElem?_getD]
    ·simp only[if_neg c]
     obtain⟨q1,q2,q3⟩:=h1 i (by omega)
     refine⟨by omega,q2,?_⟩
     rw[<-q3,e]
     simp only[rAt,List.getD_eq_getElem?_getD]
     rw[List.getElem?_append_left (by omega)]
   ·simp only
    rw[if_neg (by omega:i≠(zeroTo M k).length)]
    by_cases c:j=(zeroTo M k).length
    ·rw[if_pos c];exact(h1 i (by omega)).1
    ·rw[if_neg c];exact h2 i j hij (by omega)
   ·by_cases c:j=k
    ·exact⟨(zeroTo M k).length,by omega,by simp only[if_pos];exact c.symm⟩
    ·obtain⟨i,hi,e2⟩:=h3 j (by omega) hz2
     exact⟨i,by omega,by simp only;rw[if_neg (by omega)];exact e2⟩
  ·have e:zeroTo M (k+1)=zeroTo M k:=by rw[zeroTo,if_neg hz]
   rw[e]
   refine⟨f,fun i hi=>?_,h2,fun j hj hz2=>?_⟩
   ·obtain⟨q1,q2⟩:=h1 i hi
    exact⟨by omega,q2⟩
   ·by_cases c:j=k
    ·rw[c] at hz2;exact absurd hz2 hz
    ·exact h3 j (by omega) hz2
theorem putE_ok {M:List Sp} {l:List Int} (h:putE M l=0):badTo M l l.length=false/\twiceTo M l l.length=false:=by
 unfold putE at h
 split at h
 ·omega
 ·split at h
  ·omega
  ·rename_i h1 h2
   exact⟨by simpa using h1,by simpa using h2⟩
theorem putE_cases (M:List Sp) (l:List Int):putE M l=0\/(putM M l=M/\putR M l=[]):=by
 by_cases h:putE M l=0
 ·exact .inl h
 ·exact .inr ⟨by rw[putM,if_neg h],by rw[putR,if_neg h]⟩
theorem InvC.tok_ {P:Hp} {S:HS} {who:Who} (h:InvC P S.sp S.M S.B S.L S.R who) {a k:Nat} (ha:a<P.na) (hk:k<P.T.length) (hG:GoodL (P.cl k) (S.M a k)) (l:List Int):TOk S a k l:=by
 rcases putE_cases (S.M a k) l with h0|⟨_,h0⟩
 ·obtain⟨h1,h2⟩:=putE_ok h0
  obtain⟨hN,_⟩:=freeTo_tk hG l.length (Nat.le_refl _) h1 h2
  have hlk:=freeTo_like (S.M a k) l l.length
  have hR:putR (S.M a k) l=zeroTo (freeTo (S.M a k) l l.length) (freeTo (S.M a k) l l.length).length:=by rw[putR,if_pos h0]
  obtain⟨f,f1,f2,_⟩:=zeroTo_map (freeTo (S.M a k) l l.length) (freeTo (S.M a k) l l.length).length
  rw[<-hR] at f1 f2
  have hpg:∀i,i<(putR (S.M a k) l).length->∀y,(rAt (putR (S.M a k) l) i).1 *256<=y->y<((rAt (putR (S.M a k) l) i).1+(rAt (putR (S.M a k) l) i).2)*256->who y=.cen a k\/∃h x,who y=.tok h k x:=by
   intro i hi y y1 y2
   obtain⟨q1,_,q3⟩:=f1 i hi
   rw[q3] at y1 y2
   exact h.pgs a k ha hk y ((Pg.like hlk y).1 (Pg.at_.2 ⟨f i,q1,y1,y2⟩))
  refine⟨?_,fun i hi=>?_,fun i j hij hj x x1 x2 x3 x4=>?_,fun i hi x x1 x2 hx=>?_⟩
  ·rw[hR];exact Nat.le_trans (zeroTo_len _ _) hN.len
  ·obtain⟨q1,_,q3⟩:=f1 i hi
   have hs:=(hN.sp (f i) q1).1
   have:=hs.b1
   have:=hs.p1
   have hp:=hpg i hi
   rw[q3] at hp ⊢
   refine⟨hs.b1,hs.p1,?_⟩
   have h3:=hp (((sAt (freeTo (S.M a k) l l.length) (f i)).start+(sAt (freeTo (S.M a k) l l.length) (f i)).pages)*256-1) (by dsimp only;omega) (by dsimp only;omega)
   have h4:=h.spc (((sAt (freeTo (S.M a k) l l.length) (f i)).start+(sAt (freeTo (S.M a k) l l.length) (f i)).pages)*256-1)
   have h5:¬who (((sAt (freeTo (S.M a k) l l.length) (f i)).start+(sAt (freeTo (S.M a k) l l.length) (f i)).pages)*256-1)=.spc:=by rcases h3 with e|⟨_,_,e⟩<;>rw[e]<;>simp
   have h6:=Decidable.not_not.1 (fun c=>h5 (h4.2 c))
   dsimp only
   omega
  ·obtain⟨q1,_,q3⟩:=f1 i (by omega)
   obtain⟨r1,_,r3⟩:=f1 j hj
   rw[q3] at x1 x2
   rw[r3] at x3 x4
   have:=hN.ord (f i) (f j) (f2 i j hij hj) r1
   dsimp only at x1 x2 x3 x4
   omega
  ·have h3:=hpg i hi (x*256) (by omega) (by omega)
   have h4:=h.bud a x ha hx (x*256) (Int.le_refl _) (by omega)
   rw[h4] at h3
   rcases h3 with e|⟨_,_,e⟩<;>cases e
 ·constructor
  ·rw[h0];simp
  ·intro i hi;rw[h0] at hi;simp at hi
  ·intro i j _ hj;rw[h0] at hj;simp at hj
  ·intro i hi;rw[h0] at hi;simp at hi
theorem GoodL.once {c:Cl} {M:List Sp} (hg:GoodL c M) {i j:Nat} (hi:i<M.length) (hj:j<M.length) {y:Int} (h1:(sAt M i).start *256<=y/\y<((sAt M i).start+(sAt M i).pages)*256) (h2:(sAt M j).start *256<=y/\y<((sAt M j).start+(sAt M j).pages)*256):i=j:=by
 rcases Nat.lt_trichotomy i j with h|h|h
 ·have:=hg.ord i j h hj;omega
 ·exact h
 ·have:=hg.ord j i h hi;omega
theorem back7_cases (h:Hd) (a k:Nat) (d:Int->Nat) (o:Ow):back7 h a k d o=o\/(back7 h a k d o=.cen a k/\∃x,o=.tok h k x/\0<d x):=by
 cases o with
 |tok h' k' x=>
  by_cases e:h'=h/\k'=k/\0<d x
  ·obtain⟨rfl,rfl,e⟩:=e
   exact .inr ⟨back7_yes e,x,rfl,e⟩
  ·exact .inl (back7_no e)
 |_=>exact .inl rfl
theorem InvC.congr {P:Hp} {sp:V.SpM} {M M':Nat->Nat->List Sp} {B B':Nat->Nat->Int->Bool} {L L':Nat->Nat->Int} {R:Nat->Int->Option Int} {who:Who} (h:InvC P sp M B L R who) (hM:∀a k,a<P.na->k<P.T.length->M' a k=M a k) (hB:∀a,a<P.na->∀x,bF (B' a) x↔bF (B a) x) (hL:∀a,a<P.na->SameL (L a) (L' a)):InvC P sp M' B' L' R who where
 n:=h.n
 cen:=fun a k ha hk=>by rw[hM a k ha hk];exact h.cen a k ha hk
 pgs:=fun a k ha hk=>by rw[hM a k ha hk];exact h.pgs a k ha hk
 bud:=fun a x ha hx=>h.bud a x ha ((hB a ha x).1 hx)
 spc:=h.spc
 lo:=h.lo
 own:=fun b hb=>by
  obtain⟨a,ha,h1⟩:=h.own b hb
  exact⟨a,ha,fun e=>h1 ((hL a ha _).1 e)⟩
 hugU:=fun a j ha=>by rw[hL a ha,hL a ha];exact h.hugU a j ha
 run:=h.run
 tin:=h.tin
 dis:=fun a k a' k' y ha hk ha' hk'=>by rw[hM a k ha hk,hM a' k' ha' hk'];exact h.dis a k a' k' y ha hk ha' hk'
open Classical in
noncomputable def whoZ (f:Ow->Ow) (who:Who) (Z:Int->Prop) (a:Nat):Who:=fun b=>if Z b then .bud a else f (who b)
theorem InvC.backOne {P:Hp} {sp:V.SpM} {M:Nat->Nat->List Sp} {B:Nat->Nat->Int->Bool} {L:Nat->Nat->Int} {R:Nat->Int->Option Int} {who:Who} (h:InvC P sp M B L R who) {t a k:Nat} (ha:a<P.na) (hk:k<P.T.length) (hG:GoodL (P.cl k) (M a k)) {l:List Int} (hl:∀x∈l,Has who (.tok (.han t) k x) x (P.cl k).size)
 {B2:Nat->Int->Bool} {L2:Nat->Int} (hB:∀x,bF B2 x↔bF (B a) x\/∃j,j<(putR (M a k) l).length/\(rAt (putR (M a k) l) j).1<=x/\x<(rAt (putR (M a k) l) j).1+(rAt (putR (M a k) l) j).2) (hL:SameL (L a) L2):
 ∃who',InvC P sp (upd2 M a k (putM (M a k) l)) (upd B a B2) (upd L a L2) R who'/\∀b,who b≠ .cen a k->(∀x∈l,who b≠ .tok (.han t) k x)->who' b=who b:=by
 rcases putE_cases (M a k) l with h0|⟨e1,e2⟩
 ·obtain⟨h1,h2⟩:=putE_ok h0
  obtain⟨hN,_⟩:=freeTo_tk hG l.length (Nat.le_refl _) h1 h2
  have hlk:=freeTo_like (M a k) l l.length
  have hR:putR (M a k) l=zeroTo (freeTo (M a k) l l.length) (freeTo (M a k) l l.length).length:=by rw[putR,if_pos h0]
  have hM:putM (M a k) l=keptOf (freeTo (M a k) l l.length):=by rw[putM,if_pos h0]
  obtain⟨g,g1,_,g3⟩:=zeroTo_map (freeTo (M a k) l l.length) (freeTo (M a k) l l.length).length
  rw[<-hR] at g1 g3
  rw[hM]
  have hcn:=CenOwn.free hG (f:=back7 (.han t) a k (fun x=>l.count x)) rfl (h.cen a k ha hk) h1 h2 (fun x hx=>⟨_,hl x hx,back7_yes (List.count_pos_iff.2 hx)⟩) l.length (Nat.le_refl _)
  have htk:∀x∈l,∀y,x<=y->y<x+(P.cl k).size->Pg (M a k) y:=by
   intro x hx y y1 y2
   obtain⟨j,hj,rfl⟩:=List.getElem_of_mem hx
   have h3:=(freeTo_tk hG 0 (Nat.zero_le _) h1 h2).2 j (Nat.zero_le _) hj
   have h4:iAt l j=l[j]:=by simp[iAt,List.getD_eq_getElem?_getD,List.getElem?_eq_getElem hj]
   rw[h4] at h3
   obtain⟨i,m,hi,hm,_,h5⟩:=TK.at_.1 ((tk_iff hG _).1 h3)
   have h6:=obj_in hG hi hm
   exact Pg.at_.2 ⟨i,hi,by omega,by omega⟩
  generalize hNN:freeTo (M a k) l l.length=N at *
  have hZ:∀b,(∃j,j<N.length/\(sAt N j).many=0/\(sAt N j).start *256<=b/\b<((sAt N j).start+(sAt N j).pages)*256)->back7 (.han t) a k (fun x=>l.count x) (who b)=.cen a k:=by
   rintro b ⟨j,hj,hz,b1,b2⟩
   exact CenOwn.zero hN hcn (sAt_mem hj) hz b b1 (by rw[Int.add_mul] at b2;exact b2)
  generalize hZd:(fun b=>∃j,j<N.length/\(sAt N j).many=0/\(sAt N j).start *256<=b/\b<((sAt N j).start+(sAt N j).pages)*256)=Z at *
  have hZ2:∀b,Z b->back7 (.han t) a k (fun x=>l.count x) (who b)=.cen a k:=fun b hb=>hZ b (by rw[<-hZd] at hb;exact hb)
  have hzz:∀b,Z b->whoZ (back7 (.han t) a k (fun x=>l.count x)) who Z a b=.bud a:=fun b hb=>if_pos hb
  have hzn:∀b,¬Z b->whoZ (back7 (.han t) a k (fun x=>l.count x)) who Z a b=back7 (.han t) a k (fun x=>l.count x) (who b):=fun b hb=>if_neg hb
  have keep:∀b,who b≠ .cen a k->(∀x∈l,who b≠ .tok (.han t) k x)->whoZ (back7 (.han t) a k (fun x=>l.count x)) who Z a b=who b:=by
   intro b n1 n2
   have hb7:back7 (.han t) a k (fun x=>l.count x) (who b)=who b:=by
    rcases back7_cases (.han t) a k (fun x=>l.count x) (who b) with e|⟨_,x,e,hx⟩
    ·exact e
    ·exact absurd e (n2 x (List.count_pos_iff.1 hx))
   rw[hzn b (fun hz=>by have:=hZ2 b hz;rw[hb7] at this;exact n1 this),hb7]
  have keepO:∀b o,who b=o->(∀h k x,o≠ .tok h k x)->o≠ .cen a k->whoZ (back7 (.han t) a k (fun x=>l.count x)) who Z a b=o:=fun b o e n1 n2=>by rw[keep b (by rw[e];exact n2) (fun x _=>by rw[e];exact n1 _ _ _)];exact e
  have keepH:∀{o:Ow} {x n:Int},Has who o x n->(∀h k x,o≠ .tok h k x)->o≠ .cen a k->Has (whoZ (back7 (.han t) a k (fun x=>l.count x)) who Z a) o x n:=fun hx n1 n2 y y1 y2=>keepO y _ (hx y y1 y2) n1 n2
  have hkp:∀y,Pg (keptOf N) y->Pg N y/\¬Z y:=by
   rintro y ⟨s,hs,y1,y2⟩
   obtain⟨hs1,hs2⟩:=List.mem_filter.1 hs
   refine⟨⟨s,hs1,y1,y2⟩,fun hz=>?_⟩
   rw[<-hZd] at hz
   obtain⟨j,hj,hz,z1,z2⟩:=hz
   obtain⟨i,hi,rfl⟩:=List.getElem_of_mem hs1
   have e:N[i]=sAt N i:=by simp[sAt,List.getD_eq_getElem?_getD,List.getElem?_eq_getElem hi]
   rw[e] at hs2 y1 y2
   have:=hN.once hi hj ⟨y1,y2⟩ ⟨z1,z2⟩
   subst this
   rw[hz] at hs2
   simp at hs2
  have hspc:∀b,whoZ (back7 (.han t) a k (fun x=>l.count x)) who Z a b=.spc↔who b=.spc:=by
   intro b
   by_cases hz:Z b
   ·rw[hzz b hz]
    have:=hZ2 b hz
    constructor
    ·intro e;cases e
    ·intro e;rw[e] at this;cases this
   ·rw[hzn b hz]
    rcases back7_cases (.han t) a k (fun x=>l.count x) (who b) with e|⟨e,x,e2,_⟩
    ·rw[e]
    ·rw[e,e2];simp
  refine⟨_,⟨h.n,fun b j hb hj=>?_,fun b j hb hj y hy=>?_,fun b x hb hx=>?_,fun b=>(hspc b).trans (h.spc b),h.lo,fun b hb=>?_,fun b j hb=>?_,fun A s p hA hs=>?_,fun y h' j x e=>?_,fun b j b' j' y hb hj hb' hj' q1 q2=>?_⟩,keep⟩
  ·by_cases e:b=a/\j=k
   ·obtain⟨rfl,rfl⟩:=e
    rw[upd2_at]
    intro y hy ht
    rw[hzn y (hkp y hy).2]
    exact hcn.kept hN y hy ht
   ·rw[upd2_ne e]
    intro y hy ht
    exact keepO y _ (h.cen b j hb hj y hy ht) (by simp) (by intro c;injection c with c1 c2;exact e ⟨c1,c2⟩)
  ·by_cases e:b=a/\j=k
   ·obtain⟨rfl,rfl⟩:=e
    rw[upd2_at] at hy
    obtain⟨y1,y2⟩:=hkp y hy
    rw[hzn y y2]
    rcases back7_cases (.han t) b j (fun x=>l.count x) (who y) with e|⟨e,_⟩
    ·rw[e];exact h.pgs b j hb hj y ((Pg.like hlk y).1 y1)
    ·exact .inl e
   ·rw[upd2_ne e] at hy
    have h3:=h.pgs b j hb hj y hy
    rw[keep y (fun c=>?_) (fun x hx c=>?_)]
    ·exact h3
    ·rw[c] at h3
     rcases h3 with h3|⟨_,_,h3⟩
     ·injection h3 with c1 c2;exact e ⟨c1.symm,c2.symm⟩
     ·cases h3
    ·have h4:=h.tin y _ _ _ c
     have h5:=h.dis b j a k y hb hj ha hk hy (htk x hx y h4.1 (by
      have:szK P.T (k:Int)=(P.cl k).size:=by unfold szK;rw[Int.toNat_natCast];rfl
      omega))
     exact e h5
  ·by_cases e:b=a
   ·subst e
    rw[upd_at,hB] at hx
    rcases hx with hx|⟨i,hi,i1,i2⟩
    ·exact keepH (h.bud b x hb hx) (by simp) (by simp)
    ·obtain⟨r1,r2,r3⟩:=g1 i hi
     rw[r3] at i1 i2
     intro y y1 y2
     refine hzz y ?_
     rw[<-hZd]
     exact⟨g i,r1,r2,by dsimp only at i1 i2;omega,by dsimp only at i1 i2;omega⟩
   ·rw[upd_ne e] at hx
    exact keepH (h.bud b x hb hx) (by simp) (by simp)
  ·obtain⟨c,hc,hc2⟩:=h.own b (fun e=>hb ((hspc b).2 e))
   refine⟨c,hc,?_⟩
   by_cases e:c=a
   ·subst e;rw[upd_at];exact fun x=>hc2 ((hL _).1 x)
   ·rw[upd_ne e];exact hc2
  ·by_cases e:b=a
   ·subst e;rw[upd_at,hL,hL];exact h.hugU b j hb
   ·rw[upd_ne e];exact h.hugU b j hb
  ·obtain⟨r1,r2⟩:=h.run A s p hA hs
   exact⟨r1,r2.imp (fun x=>keepH x (by simp) (by simp)) (fun ⟨u,x⟩=>⟨u,keepH x (by simp) (by simp)⟩)⟩
  ·by_cases hz:Z y
   ·rw[hzz y hz] at e;cases e
   ·rw[hzn y hz] at e
    rcases back7_cases (.han t) a k (fun x=>l.count x) (who y) with e2|⟨e2,_⟩
    ·rw[e2] at e;exact h.tin y h' j x e
    ·rw[e2] at e;cases e
  ·have key:∀b j,Pg (upd2 M a k (keptOf N) b j) y->Pg (M b j) y:=by
    intro b j hy
    by_cases e:b=a/\j=k
    ·obtain⟨rfl,rfl⟩:=e
     rw[upd2_at] at hy
     exact(Pg.like hlk y).1 (hkp y hy).1
    ·rw[upd2_ne e] at hy;exact hy
   exact h.dis b j b' j' y hb hj hb' hj' (key b j q1) (key b' j' q2)
 ·refine⟨who,h.congr (fun b j hb hj=>?_) (fun b hb x=>?_) (fun b hb=>?_),fun _ _ _=>rfl⟩
  ·rw[e1,upd2_same]
  ·by_cases e:b=a
   ·subst e
    rw[upd_at,hB,e2]
    simp
   ·rw[upd_ne e]
  ·by_cases e:b=a
   ·subst e;rw[upd_at];exact hL
   ·rw[upd_ne e];exact SameL.refl _
end Go.Proofs.YtcidjimefnhacaaGreatDoor
namespace Go.Proofs.YtcidjimefnhacaaGreatDoor
open Go.RowKit
theorem sumC_mem {pl:Nat->List Int} {n a:Nat} {x:Int} (ha:a<n) (hx:x∈pl a):1<=sumC pl n x:=by
 induction n with
 |zero=>omega
 |succ n ih=>
  rw[sumC]
  by_cases e:a=n
  ·subst e
   have:=List.count_pos_iff.2 hx
   omega
  ·have:=ih (by omega)
   omega
theorem sumC_two {pl:Nat->List Int} {n a b:Nat} {x:Int} (ha:a<n) (hb:b<n) (hne:a≠b) (hxa:x∈pl a) (hxb:x∈pl b):2<=sumC pl n x:=by
 induction n with
 |zero=>omega
 |succ n ih=>
  rw[sumC]
  by_cases e:a=n
  ·subst e
   have:=List.count_pos_iff.2 hxa
   have:=sumC_mem (pl:=pl) (n:=a) (a:=b) (by omega) hxb
   omega
  ·by_cases e2:b=n
   ·subst e2
    have:=List.count_pos_iff.2 hxb
    have:=sumC_mem (pl:=pl) (n:=b) (a:=a) (by omega) hxa
    omega
   ·have:=ih (by omega) (by omega)
    omega
theorem szK_cl (P:Hp) (k:Nat):szK P.T (k:Int)=(P.cl k).size:=by unfold szK;rw[Int.toNat_natCast];rfl
theorem Inv.backC {P:Hp} {S:HS} {who:Who} (h:Inv P S who) (hG:∀a k,a<P.na->k<P.T.length->GoodL (P.cl k) (S.M a k)) {t:Nat} (ht:t<P.nt) {b:HB} {L:List HB} (hH:S.H t=b::L) {v:Value} {pl:Nat->List Int} {B':Nat->Nat->Int->Bool} {L':Nat->Nat->Int} (hs:∀x,sumC pl P.na x=b.o.count x) (hB:BkR (S.hnd t v L) b.k pl P.na B' L'):
 ∃who',Inv P (HS.phs ((S.hnd t v L).bks b.k pl P.na B' L') t (if L=[] then .none else .back)) who':=by
 have hbk:=h.hok t ht b (by rw[hH];simp)
 have hk:=hbk.k
 have htk:∀j y,0<htok (S.H t) j y->htok (S.H t) j y=1/\0<=j/\j<P.T.length/\Has who (.tok (.han t) j y) y (szK P.T j):=fun j y hy=>by
  have:=h.tk (.han t) j y
  rw[tk_han ht] at this
  exact this hy
 have hcnt:∀x,htok (S.H t) b.k x=b.o.count x+htok L b.k x:=fun x=>by rw[hH];simp[htok]
 have hc1:∀x,b.o.count x<=1:=fun x=>by
  have h1:=hcnt x
  rcases Nat.eq_zero_or_pos (b.o.count x) with e|e
  ·omega
  ·have:=(htk b.k x (by omega)).1
   omega
 have hmem:∀a x,a<P.na->x∈pl a->x∈b.o:=fun a x ha hx=>List.count_pos_iff.1 (by have:=sumC_mem ha hx;rw[hs] at this;omega)
 have key:∀i,i<=P.na->∃w,InvC P S.sp (bkM S b.k pl i) (fun a=>if a<i then B' a else S.B a) (fun a=>if a<i then L' a else S.L a) S.R w/\
  (∀y,(∀a,who y≠ .cen a b.k)->(∀x∈b.o,who y≠ .tok (.han t) b.k x)->w y=who y)/\∀a x,i<=a->a<P.na->x∈pl a->Has w (.tok (.han t) b.k x) x (P.cl b.k).size:=by
  intro i
  induction i with
  |zero=>
   refine fun _=>⟨who,h.c.congr (fun a j _ _=>if_neg (by omega)) (fun a _ x=>by simp) (fun a _=>by simp;exact SameL.refl _),fun _ _ _=>rfl,fun a x _ ha hx=>?_⟩
   have h1:=hcnt x
   have h2:=List.count_pos_iff.2 (hmem a x ha hx)
   have:=(htk b.k x (by omega)).2.2.2
   rwa[szK_cl] at this
  |succ i ih=>
   intro hi
   obtain⟨w,c1,c2,c3⟩:=ih (by omega)
   by_cases hn:pl i=[]
   ·refine⟨w,c1.congr (fun a j _ _=>?_) (fun a _ x=>?_) (fun a _=>?_),c2,fun a x ha=>c3 a x (by omega)⟩
    ·unfold bkM
     by_cases e:a<i/\j=b.k
     ·rw[if_pos e,if_pos ⟨by omega,e.2⟩]
     ·rw[if_neg e]
      split
      ·rename_i e2
       have e3:a=i:=by omega
       subst e3
       rw[hn,e2.2];rfl
      ·rfl
    ·by_cases e:a<i
     ·rw[if_pos e,if_pos (by omega)]
     ·rw[if_neg e]
      split
      ·have e3:a=i:=by omega
       subst e3
       have:=hB.b a (by omega) x
       rw[hn] at this
       simp[ptR] at this
       exact this
      ·exact Iff.rfl
    ·by_cases e:a<i
     ·rw[if_pos e,if_pos (by omega)];exact SameL.refl _
     ·rw[if_neg e]
      split
      ·exact hB.l a
      ·exact SameL.refl _
   ·have e1:bkM S b.k pl i i b.k=S.M i b.k:=if_neg (by omega)
    have e2:ptR (S.M i b.k) (pl i)=putR (S.M i b.k) (pl i):=if_neg hn
    have e3:ptM (S.M i b.k) (pl i)=putM (S.M i b.k) (pl i):=if_neg hn
    obtain⟨w',d1,d2⟩:=c1.backOne (t:=t) (a:=i) (k:=b.k) (by omega) hk (l:=pl i) (by rw[e1];exact hG i b.k (by omega) hk) (fun x hx=>c3 i x (Nat.le_refl _) (by omega) hx) (B2:=B' i) (L2:=L' i) (fun x=>by
     have:=hB.b i (by omega) x
     rw[show(S.hnd t v L).M=S.M from rfl,e2,show(S.hnd t v L).B=S.B from rfl] at this
     rw[e1,if_neg (Nat.lt_irrefl i)]
     exact this) (by rw[if_neg (Nat.lt_irrefl i)];exact hB.l i)
    refine⟨w',d1.congr (fun a j _ _=>?_) (fun a _ x=>?_) (fun a _=>?_),fun y y1 y2=>?_,fun a x ha1 ha2 hx y y1 y2=>?_⟩
    ·by_cases e:a=i/\j=b.k
     ·obtain⟨rfl,rfl⟩:=e
      rw[upd2_at,e1]
      unfold bkM
      rw[if_pos ⟨by omega,rfl⟩,e3]
     ·rw[upd2_ne e]
      unfold bkM
      by_cases e4:a<i/\j=b.k
      ·rw[if_pos e4,if_pos ⟨by omega,e4.2⟩]
      ·rw[if_neg e4,if_neg (fun c=>e4 ⟨by have:=c.1;have:a≠i:=fun z=>e ⟨z,c.2⟩;omega,c.2⟩)]
    ·by_cases e:a=i
     ·subst e;rw[upd_at,if_pos (by omega)]
     ·rw[upd_ne e]
      by_cases e4:a<i
      ·rw[if_pos e4,if_pos (by omega)]
      ·rw[if_neg e4,if_neg (by omega)]
    ·by_cases e:a=i
     ·subst e;rw[upd_at,if_pos (by omega)];exact SameL.refl _
     ·rw[upd_ne e]
      by_cases e4:a<i
      ·rw[if_pos e4,if_pos (by omega)];exact SameL.refl _
      ·rw[if_neg e4,if_neg (by omega)];exact SameL.refl _
    ·have h1:=c2 y y1 y2
     rw[d2 y (by rw[h1];exact y1 i) (fun x hx=>by rw[h1];exact y2 x (hmem i x (by omega) hx)),h1]
    ·have h1:=c3 a x (by omega) ha2 hx y y1 y2
     rw[d2 y (by rw[h1];simp) (fun x' hx'=>by
      rw[h1]
      intro c
      injection c with _ _ c
      subst c
      have:=sumC_two (pl:=pl) ha2 (show i<P.na by omega) (by omega) hx hx'
      rw[hs] at this
      have:=hc1 x
      omega),h1]
 obtain⟨w,c1,c2,_⟩:=key P.na (Nat.le_refl _)
 have keep:∀{o:Ow} {x n:Int},Has who o x n->(∀a,o≠ .cen a b.k)->(∀x∈b.o,o≠ .tok (.han t) b.k x)->Has w o x n:=fun hx n1 n2 y y1 y2=>by
  have:=hx y y1 y2
  rw[c2 y (by rw[this];exact n1) (by rw[this];exact n2)]
  exact this
 obtain⟨q1,q2⟩:=h.others (S':=HS.phs ((S.hnd t v L).bks b.k pl P.na B' L') t (if L=[] then .none else .back)) (who':=w) (t:=t) (p':=if L=[] then .none else .back) rfl (by
  by_cases e:L=[]
  ·rw[if_pos e];show upd S.H t L t=[];rw[upd_at];exact e
  ·rw[if_neg e];show upd S.H t L t≠ [];rw[upd_at];exact e) (fun u hu=>upd_ne hu) (fun u x _ _ _ hx=>hx) (fun u A3 s3 q _ _ _ h1 h2=>⟨h1,keep h2 (by simp) (by simp)⟩) (fun a=>by split<;>simp)
 refine⟨w,c1.congr (fun a j _ _=>rfl) (fun a ha x=>by rw[if_pos ha];exact Iff.rfl) (fun a ha=>by rw[if_pos ha];exact SameL.refl _),fun hd=>?_,⟨h.l.sml,fun x b' hb hc=>?_⟩,h.trb,hok_hnd h.hok (fun c hc=>h.hok t ht c (by rw[hH];exact mcm _ hc)),q1,q2⟩
 ·intro j y hj
  by_cases e:hd=.han t
  ·subst e
   rw[tk_han ht] at hj ⊢
   replace hj:0<htok (upd S.H t L t) j y:=hj
   show htok (upd S.H t L t) j y=1/\_
   rw[upd_at] at hj ⊢
   have h1:htok (S.H t) j y=(if(b.k:Int)=j then b.o.count y else 0)+htok L j y:=by rw[hH];rfl
   obtain⟨h2,h3,h4,h5⟩:=htk j y (by omega)
   refine⟨by omega,h3,h4,keep h5 (by simp) (fun x hx c=>?_)⟩
   injection c with _ c1 c2
   subst c1 c2
   rw[if_pos rfl] at h1
   have:=List.count_pos_iff.2 hx
   omega
  ·have e3:tkH P (HS.phs ((S.hnd t v L).bks b.k pl P.na B' L') t (if L=[] then .none else .back)) hd j y=tkH P S hd j y:=by
    cases hd with
    |han u=>
     show(if u<P.nt then htok (upd S.H t L u) j y else 0)=if u<P.nt then htok (S.H u) j y else 0
     rw[upd_ne (ne_han e)]
    |_=>rfl
   rw[e3] at hj ⊢
   obtain⟨a1,a2,a3,a4⟩:=h.tk hd j y hj
   exact⟨a1,a2,a3,keep a4 (by simp) (fun x _ c=>by injection c with c _ _;exact e c)⟩
 ·obtain⟨d1,d2,d3,A3,s3,q,d4,d5,d6,d7,d8⟩:=h.l.lrg x b' hb hc
  exact⟨d1,d2,d3,A3,s3,q,d4,d5,d6,d7,keep d8 (by simp) (by simp)⟩
end Go.Proofs.YtcidjimefnhacaaGreatDoor
