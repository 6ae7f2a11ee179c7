/- TopSchedules, a part of the proof: Ur. -/
import Derived.Test.YtcidjimefnhacaaGreatDoorM38
import Derived.Test.YtcidjimefnhacaaGreatDoorM46
set_option linter.unusedVariables false
set_option linter.unusedSimpArgs false
namespace Go.Proofs.YtcidjimefnhacaaGreatDoor
open Go.RowKit
structure AD where
 ar:Nat
 g2:Nat
 c2:Nat
 bd:Nat
 hu:Nat
 pm:Nat
 rn:Nat
 gc:Nat
 cc:Nat
 gx:Nat
 cx:Nat
 ce:Nat->Nat
 tr:Nat->Nat
 f1:List Nat
 f2:List Nat
 f3:List Nat
 fc:Nat->List Nat
 ft:Nat->List Nat
theorem Tg.re {τ:Type} {base base':Nat} {w w':World} {φ φ':Nat->τ} {i:τ} {fp:List Nat} (h:Tg base w φ i fp) (hb:base'<=base) (hs:w.heap.size<=w'.heap.size) (hφ:∀b,base<=b->b<w.heap.size->φ' b=φ b):Tg base' w' φ' i fp:=fun b hm=>by
 obtain⟨h1,h2,h3⟩:=h b hm
 exact⟨by omega,by omega,(hφ b h1 h2).trans h3⟩
theorem Tg.off {τ:Type} {base:Nat} {w:World} {φ:Nat->τ} {i:τ} {fp L:List Nat} (h:Tg base w φ i fp) (hL:∀b∈L,base<=b->φ b≠i):∀b∈fp,b∉L:=fun b hb hx=>hL b hx (h b hb).1 (h b hb).2.2
structure ArK (T:List Z.Cl) (room:Int) (sp a:Nat) (d:AD) (base:Nat) (φ:Nat->Ix×Nat) (w:World):Prop where
 blk:Blk w d.ar 140 #[.slice (some ⟨d.g2,0,none⟩) T.length d.c2,.pointer (some ⟨sp,0,none⟩),.pointer (some ⟨d.bd,0,none⟩),.pointer (some ⟨d.hu,0,none⟩),.pointer (some ⟨d.pm,0,none⟩),.slice (some ⟨d.gc,0,none⟩) T.length d.cc,.slice (some ⟨d.gx,0,none⟩) T.length d.cx,.map (some d.rn)]
 tab:Z.ReadsC w (some ⟨d.g2,0,none⟩) T.length T
 tc:T.length<=d.c2
 rc:V.Row w d.gc T.length (fun k=>.pointer (some ⟨d.ce k,0,none⟩))
 cc:T.length<=d.cc
 rx:V.Row w d.gx T.length (fun k=>.pointer (some ⟨d.tr k,0,none⟩))
 cx:T.length<=d.cx
 st:Tg base w φ (.stat,3+a) [d.ar,d.g2,d.gc,d.gx]
 bu:BuSt d.bd (fun _ _=>false) w d.f1
 hu:HuSt 256 d.hu (fun _=>0) w d.f2
 pm:PmSt d.pm w d.f3
 rn:RunSt d.rn (fun _=>none) w [d.rn]
 ls:∀k,k<T.length->ListSt w (d.ce k) (d.fc k) ⟨(Z.cAt T k).s,(Z.cAt T k).p,(Z.cAt T k).b⟩ []/\TrSt (Z.cAt T k).b room (d.tr k) [] w (d.ft k)
 t1:Tg base w φ (.bud a,0) d.f1
 t2:Tg base w φ (.hug a,0) d.f2
 t3:Tg base w φ (.pmp a,0) d.f3
 t4:Tg base w φ (.run a,0) [d.rn]
 tk:∀k,k<T.length->Tg base w φ (.cen a k,0) (d.fc k)/\Tg base w φ (.tra a k,0) (d.ft k)
def Lo (φ:Nat->Ix×Nat) (base:Nat) (L:List Nat):Prop:=∀b∈L,base<=b->φ b=(.stat,0)\/φ b=(.stat,2)\/φ b=(.row,0)
theorem Lo.ne {φ:Nat->Ix×Nat} {base:Nat} {L:List Nat} (h:Lo φ base L) {i:Ix×Nat} (h0:i≠(.stat,0)) (h2:i≠(.stat,2)) (hr:i≠(.row,0)):∀b∈L,base<=b->φ b≠i:=fun b hb h9 e=>by
 rcases h b hb h9 with c|c|c
 ·exact h0 (e.symm.trans c)
 ·exact h2 (e.symm.trans c)
 ·exact hr (e.symm.trans c)
theorem Lo.x {φ:Nat->Ix×Nat} {base:Nat} {L:List Nat} (h:Lo φ base L) {x:Ix} (hs:x≠ .stat) (hr:x≠ .row):∀b∈L,base<=b->φ b≠(x,0):=h.ne (fun e=>hs (congrArg Prod.fst e)) (fun e=>hs (congrArg Prod.fst e)) (fun e=>hr (congrArg Prod.fst e))
theorem Lo.s {φ:Nat->Ix×Nat} {base:Nat} {L:List Nat} (h:Lo φ base L) (a:Nat):∀b∈L,base<=b->φ b≠(.stat,3+a):=h.ne (fun e=>by have:=congrArg Prod.snd e;simp at this) (fun e=>by have:=congrArg Prod.snd e;simp at this;omega) (fun e=>by have:=congrArg Prod.fst e;cases this)
theorem ArK.re {T:List Z.Cl} {room:Int} {sp a:Nat} {d:AD} {base base':Nat} {φ φ':Nat->Ix×Nat} {w w':World} {L:List Nat} (h:ArK T room sp a d base φ w) (ho:Only L w w') (hL:Lo φ base L) (hb:base'<=base) (hφ:∀b,base<=b->b<w.heap.size->φ' b=φ b):ArK T room sp a d base' φ' w':=by
 have hs:=ho.size
 have m:=h.st.off (hL.s a)
 exact {
  blk:=h.blk.only ho (m _ (by simp))
  tab:=h.tab.only ho (fun ad e=>by cases e;exact m _ (by simp))
  tc:=h.tc
  rc:=h.rc.only ho (m _ (by simp))
  cc:=h.cc
  rx:=h.rx.only ho (m _ (by simp))
  cx:=h.cx
  st:=h.st.re hb hs hφ
  bu:=(BuSt.framed _ _).only h.bu ho (h.t1.off (hL.x (fun e=>by cases e) (fun e=>by cases e)))
  hu:=(HuSt.framed _ _ _).only h.hu ho (h.t2.off (hL.x (fun e=>by cases e) (fun e=>by cases e)))
  pm:=(PmSt.framed _).only h.pm ho (h.t3.off (hL.x (fun e=>by cases e) (fun e=>by cases e)))
  rn:=(RunSt.framed _ _).only h.rn ho (h.t4.off (hL.x (fun e=>by cases e) (fun e=>by cases e)))
  ls:=fun k hk=>by
   obtain⟨q1,q2⟩:=h.ls k hk
   obtain⟨r1,r2⟩:=h.tk k hk
   exact⟨q1.only ho (r1.off (hL.x (fun e=>by cases e) (fun e=>by cases e))),(TrSt.framed _ _ _ _).only q2 ho (r2.off (hL.x (fun e=>by cases e) (fun e=>by cases e)))⟩
  t1:=h.t1.re hb hs hφ
  t2:=h.t2.re hb hs hφ
  t3:=h.t3.re hb hs hφ
  t4:=h.t4.re hb hs hφ
  tk:=fun k hk=>⟨(h.tk k hk).1.re hb hs hφ,(h.tk k hk).2.re hb hs hφ⟩}
def tagA (a t:Nat):Ix×Nat:=if t=0 then(.stat,3+a) else if t=1 then(.bud a,0) else if t=2 then(.hug a,0) else if t=3 then(.pmp a,0) else if t=4 then(.run a,0) else if t%2=1 then(.cen a ((t-5)/2),0) else(.tra a ((t-6)/2),0)
theorem tagA_c (a k:Nat):tagA a (5+2*k)=(.cen a k,0):=by
 unfold tagA
 rw[if_neg (by omega),if_neg (by omega),if_neg (by omega),if_neg (by omega),if_neg (by omega),if_pos (by omega),show(5+2*k-5)/2=k by omega]
theorem tagA_t (a k:Nat):tagA a (6+2*k)=(.tra a k,0):=by
 unfold tagA
 rw[if_neg (by omega),if_neg (by omega),if_neg (by omega),if_neg (by omega),if_neg (by omega),if_neg (by omega),show(6+2*k-6)/2=k by omega]
theorem Tg.map {τ σ:Type} {base:Nat} {w:World} {φ:Nat->τ} {i:τ} {fp:List Nat} (h:Tg base w φ i fp) (g:τ->σ) {j:σ} (hj:g i=j):Tg base w (fun b=>g (φ b)) j fp:=fun b hb=>by
 obtain⟨h1,h2,h3⟩:=h b hb
 exact⟨h1,h2,by dsimp only;rw[h3,hj]⟩
theorem row_own {W:World} {base:Nat} {e:TypeId} {size n:Nat} {v:Value} {xs:List Value} (h:W.ownsRow base e size v n xs) (h0:0<n):∃g c,v=.slice (some ⟨g,0,none⟩) n c/\n<=c/\∀f,(∀k,k<n*size->xs[k]? =some (f k))->V.Row W g (n*size) f:=by
 rcases h.2 with ⟨rfl,e⟩|⟨g,cap,cur,rfl,hb,hg,hc,h4,h5,h6⟩
 ·omega
 ·refine⟨g,cap,rfl,hc,fun f hf=>?_⟩
  have key:∀k,k<n*size->cur[k]? =some (f k):=fun k hk=>by
   rw[<-Array.getElem?_toList,<-hf k hk,<-h6,List.getElem?_take,if_pos hk]
  refine⟨e,cur,hg,?_,key⟩
  rcases Nat.lt_or_ge cur.size (n*size) with c|c
  ·have:=key cur.size c
   simp at this
  ·exact c
theorem ArB.done {T:List Z.Cl} {room:Int} {sp g2 c2 bd hu pm rn ar:Nat} {W0 w:World} (h:ArB T room sp g2 c2 bd hu pm rn ar T.length W0 w) (h0:0<T.length) (hc:T.length<=c2) (a:Nat):∃(d:AD) (φ:Nat->Ix×Nat),d.ar=ar/\ArK T room sp a d W0.heap.size φ w:=by
 obtain⟨⟨φ,vc,vx,ce,tr,f1,f2,f3,fc,ft,k1,k2,k3,k4,k5,k6,k7,k8,k9,t0,t1,t2,t3,t4,t5,t6,t7,t8,n1,n2,n3⟩,ho⟩:=h
 obtain⟨gc,cc,rfl,hcc,hrc⟩:=row_own k3 h0
 obtain⟨gx,cx,rfl,hcx,hrx⟩:=row_own k4 h0
 rw[Nat.mul_one] at hrc hrx
 refine⟨⟨ar,g2,c2,bd,hu,pm,rn,gc,cc,gx,cx,ce,tr,f1,f2,f3,fc,ft⟩,fun b=>tagA a (φ b),rfl,{
  blk:=k1
  tab:=k2
  tc:=hc
  rc:=hrc _ (fun k hk=>ptrL_at ce _ k hk)
  cc:=hcc
  rx:=hrx _ (fun k hk=>ptrL_at tr _ k hk)
  cx:=hcx
  st:=?_
  bu:=k5
  hu:=k6
  pm:=k7
  rn:=k8
  ls:=k9
  t1:=t4.map (tagA a) rfl
  t2:=t5.map (tagA a) rfl
  t3:=t6.map (tagA a) rfl
  t4:=t7.map (tagA a) rfl
  tk:=fun k hk=>⟨(t8 k hk).1.map (tagA a) (tagA_c a k),(t8 k hk).2.map (tagA a) (tagA_t a k)⟩}⟩
 refine Tg.map (i:=0) (fun b hb=>?_) (tagA a) rfl
 simp only[List.mem_cons,List.not_mem_nil,or_false] at hb
 rcases hb with rfl|rfl|rfl|rfl
 ·exact t0 _ (by simp)
 ·exact t1 _ (by simp)
 ·exact t2 _ (by simp[Value.ownBlock])
 ·exact t3 _ (by simp[Value.ownBlock])
def thL (cq:Nat->Nat):Nat->List Value
 |0=>[]
 |k+1=>thL cq k++[.pointer (some ⟨cq k,0,none⟩),.slice none 0 0,.nilIface]
theorem thL_len (cq:Nat->Nat) (n:Nat):(thL cq n).length=n*3:=by
 induction n with
 |zero=>rfl
 |succ n ih=>rw[thL,List.length_append,ih];simp;omega
theorem thL_congr {f g:Nat->Nat} (k:Nat) (h:∀i,i<k->f i=g i):thL f k=thL g k:=by
 induction k with
 |zero=>rfl
 |succ k ih=>rw[thL,thL,ih (fun i hi=>h i (by omega)),h k (by omega)]
theorem thL_at (cq:Nat->Nat) (n k:Nat) (hk:k<n*3):(thL cq n)[k]? =some (if k%3=0 then .pointer (some ⟨cq (k/3),0,none⟩) else if k%3=1 then .slice none 0 0 else .nilIface):=by
 induction n with
 |zero=>omega
 |succ n ih=>
  rw[thL]
  rcases Nat.lt_or_ge k (n*3) with h|h
  ·rw[List.getElem?_append_left (by rw[thL_len];exact h)];exact ih h
  ·rw[List.getElem?_append_right (by rw[thL_len];exact h),thL_len]
   have hd:k/3=n:=by omega
   rcases (show k-n*3=0\/k-n*3=1\/k-n*3=2 by omega) with e|e|e
   ·rw[e,if_pos (by omega),hd];rfl
   ·rw[e,if_neg (by omega),if_pos (by omega)];rfl
   ·rw[e,if_neg (by omega),if_neg (by omega)];rfl
structure HpB (T:List Z.Cl) (bud room:Int) (na nt hh g2 c2 sp gL cb i j:Nat) (W0 w:World):Prop where
 ex:∃(φ:Nat->Ix×Nat) (vA vT:Value) (D:Nat->AD) (cq:Nat->Nat) (fs:List Nat) (fq:Nat->List Nat),
  Blk w hh 90 #[.slice (some ⟨g2,0,none⟩) T.length c2,.int .i64 256,.int .i64 na,.int .i64 nt,.int .i64 bud,.int .i64 room,.pointer (some ⟨sp,0,none⟩),vA,vT,.map (some gL)]/\
  Z.ReadsC w (some ⟨g2,0,none⟩) T.length T/\Blk w cb 27 #[.int .i64 256,.int .i64 na,.int .i64 nt,.int .i64 bud,.int .i64 room]/\
  w.ownsRow W0.heap.size 108 1 vA i (ptrL (fun a=>(D a).ar) i)/\w.ownsRow W0.heap.size 118 3 vT j (thL cq j)/\
  LivSt gL (fun _=>none) w [gL]/\V.SpaceAt w sp fs (V.SpM.fresh 256)/\(∀a,a<i->ArK T room sp a (D a) W0.heap.size φ w)/\
  (∀t,t<j->CaSt (cq t) T bud (fun _=>none) w (fq t)/\Tg W0.heap.size w φ (.cac t,0) (fq t))/\
  Tg W0.heap.size w φ (.stat,0) [hh]/\Tg W0.heap.size w φ (.stat,1) [g2]/\Tg W0.heap.size w φ (.stat,2) vA.ownBlock.toList/\Tg W0.heap.size w φ (.row,0) vT.ownBlock.toList/\
  Tg W0.heap.size w φ (.liv,0) [gL]/\Tg W0.heap.size w φ (.spc,0) fs/\Tg W0.heap.size w φ (.row,7) [cb]
 o:Only [] W0 w
namespace HpB
variable {T:List Z.Cl} {bud room:Int} {na nt hh g2 c2 sp gL cb i j:Nat} {W0 w:World}
theorem start {s2 s3:Nat} {fs:List Nat} (hb:Blk w hh 90 #[.slice (some ⟨g2,0,none⟩) T.length c2,.int .i64 256,.int .i64 na,.int .i64 nt,.int .i64 bud,.int .i64 room,.pointer (some ⟨sp,0,none⟩),.slice none 0 0,.slice none 0 0,.map (some gL)])
 (hR:Z.ReadsC w (some ⟨g2,0,none⟩) T.length T) (hcb:Blk w cb 27 #[.int .i64 256,.int .i64 na,.int .i64 nt,.int .i64 bud,.int .i64 room]) (hL:LivSt gL (fun _=>none) w [gL]) (hS:V.SpaceAt w sp fs (V.SpM.fresh 256)) (ho:Only [] W0 w)
 (e1:W0.heap.size<=cb) (e2:cb<s2) (e3:s2<=g2) (e4:s2<=gL) (e5:g2<hh) (e7:gL<hh) (e8:g2≠gL) (e6:hh<s3) (h1:∀b∈fs,s3<=b):HpB T bud room na nt hh g2 c2 sp gL cb 0 0 W0 w:=by
 have l1:=hb.lt
 refine⟨⟨fun b=>if b=cb then(.row,7) else if b=hh then(.stat,0) else if b=g2 then(.stat,1) else if b=gL then(.liv,0) else(.spc,0),.slice none 0 0,.slice none 0 0,fun _=>⟨0,0,0,0,0,0,0,0,0,0,0,fun _=>0,fun _=>0,[],[],[],fun _=>[],fun _=>[]⟩,fun _=>0,fs,fun _=>[],hb,hR,hcb,World.ownsRow_nil _ _ _ _,World.ownsRow_nil _ _ _ _,hL,hS,(fun a ha=>by omega),(fun t ht=>by omega),?_,?_,(fun b h=>by cases h),(fun b h=>by cases h),?_,?_,?_⟩,ho⟩
 ·intro b hb;simp at hb;subst hb
  exact⟨by omega,l1,by dsimp only;rw[if_neg (by omega),if_pos rfl]⟩
 ·intro b hb;simp at hb;subst hb
  exact⟨by omega,by omega,by dsimp only;rw[if_neg (by omega),if_neg (by omega),if_pos rfl]⟩
 ·intro b hb;simp at hb;subst hb
  exact⟨by omega,by omega,by dsimp only;rw[if_neg (by omega),if_neg (by omega),if_neg (by omega),if_pos rfl]⟩
 ·intro b hb
  have:=h1 b hb
  exact⟨by omega,hS.lt b hb,by dsimp only;rw[if_neg (by omega),if_neg (by omega),if_neg (by omega),if_neg (by omega)]⟩
 ·intro b hb;simp at hb;subst hb
  exact⟨by omega,by omega,by dsimp only;rw[if_pos rfl]⟩
theorem env3 {w:World} (h:V.Env w):3<=w.heap.size:=by
 have:=World.block_lt_of_cell? w _ (V.Env.c0 h)
 exact this
theorem cfg (h:HpB T bud room na nt hh g2 c2 sp gL cb i j W0 w):Blk w cb 27 #[.int .i64 256,.int .i64 na,.int .i64 nt,.int .i64 bud,.int .i64 room]:=by
 obtain⟨⟨φ,vA,vT,D,cq,fs,fq,k1,k2,k3,_⟩,ho⟩:=h
 exact k3
theorem spc (h:HpB T bud room na nt hh g2 c2 sp gL cb i j W0 w):∃fs,V.SpaceAt w sp fs (V.SpM.fresh 256):=by
 obtain⟨⟨φ,vA,vT,D,cq,fs,fq,k1,k2,k3,k4,k5,k6,k7,_⟩,ho⟩:=h
 exact⟨fs,k7⟩
theorem still {w':World} (h:HpB T bud room na nt hh g2 c2 sp gL cb i j W0 w) (hw:Only [] w w'):HpB T bud room na nt hh g2 c2 sp gL cb i j W0 w':=by
 obtain⟨⟨φ,vA,vT,D,cq,fs,fq,k1,k2,k3,k4,k5,k6,k7,k8,k9,t0,t1,t2,t3,t4,t5,t7⟩,ho⟩:=h
 have up:∀{x:Ix×Nat} {fp:List Nat},Tg W0.heap.size w φ x fp->Tg W0.heap.size w' φ x fp:=fun h=>h.grow hw.size
 exact⟨⟨φ,vA,vT,D,cq,fs,fq,k1.only hw (by simp),k2.only hw (by simp),k3.only hw (by simp),own_only k4 hw (by simp),own_only k5 hw (by simp),(LivSt.framed _ _).still k6 hw,k7.only hw (by simp),fun a ha=>(k8 a ha).re hw (fun b hb=>by cases hb) (Nat.le_refl _) (fun b _ _=>rfl),fun t ht=>⟨(CaSt.framed _ _ _ _).still (k9 t ht).1 hw,up (k9 t ht).2⟩,up t0,up t1,up t2,up t3,up t4,up t5,up t7⟩,ho.trans hw⟩
theorem arena (h:HpB T bud room na nt hh g2 c2 sp gL cb i j W0 w):∃(vA vT:Value) (A A':Option Addr) (c c':Nat) (xs:List Value),vA=.slice A i c/\vT=.slice A' j c'/\
 (∀W,Only [] w W->Blk W hh 90 #[.slice (some ⟨g2,0,none⟩) T.length c2,.int .i64 256,.int .i64 na,.int .i64 nt,.int .i64 bud,.int .i64 room,.pointer (some ⟨sp,0,none⟩),vA,vT,.map (some gL)]/\W.ownsRow W0.heap.size 108 1 vA i xs)/\
 ∀W1 ga ca b1 h1 p1 r1 ar,ArB T room sp ga ca b1 h1 p1 r1 ar T.length w W1->0<T.length->T.length<=ca->∀wa,Only [] W1 wa->∀v' w',w'.ownsRow W0.heap.size 108 1 v' (i+1) (xs++[.pointer (some ⟨ar,0,none⟩)])->wa.grownBy w' vA.ownBlock->(v'.ownBlock=vA.ownBlock\/v'.ownBlock=some wa.heap.size)->
  w'.cell? ⟨hh,7,none⟩=some vA/\w'.frozen? ⟨hh,7,none⟩=false/\HpB T bud room na nt hh g2 c2 sp gL cb (i+1) j W0 (w'.setCell ⟨hh,7,none⟩ v'):=by
 obtain⟨⟨φ,vA,vT,D,cq,fs,fq,k1,k2,k3,k4,k5,k6,k7,k8,k9,t0,t1,t2,t3,t4,t5,t7⟩,ho⟩:=h
 obtain⟨A,c,e1,_⟩:=own_slice k4
 obtain⟨A',c',e2,_⟩:=own_slice k5
 refine⟨vA,vT,A,A',c,c',_,e1,e2,fun W hW=>⟨k1.only hW (by simp),own_only k4 hW (by simp)⟩,fun W1 ga ca b1 h1 p1 r1 ar hA h0 hca wa hoa v' w' hown hg hat=>?_⟩
 obtain⟨d,φ1,rfl,hK⟩:=hA.done h0 hca i
 have ho1:=hA.o
 have hoA:Only vA.ownBlock.toList wa w':=(Only.refl _ wa).grown hg (fun k hk=>.inl (Option.mem_toList.2 hk))
 have hset:Only [hh] w' (w'.setCell ⟨hh,7,none⟩ v'):=(Only.refl [hh] w').setCell (p:=⟨hh,7,none⟩) (.inl (by simp)) _
 have hsz:(w'.setCell ⟨hh,7,none⟩ v').heap.size=w'.heap.size:=by simp[World.setCell]
 have s1:=ho1.size
 have s2:=hoa.size
 have s3:=hoA.size
 have s0:=ho.size
 have hnh:hh∉vA.ownBlock.toList:=fun hx=>by
  have q1:=(t0 hh (by simp)).2.2
  have q2:=(t2 hh hx).2.2
  rw[q1] at q2
  cases q2
 have hB':Blk w' hh _ _:=((k1.only ho1 (by simp)).only hoa (by simp)).only hoA hnh
 have hall:Only (hh::vA.ownBlock.toList) w (w'.setCell ⟨hh,7,none⟩ v'):=((((ho1.trans hoa).of_nil:Only (hh::vA.ownBlock.toList) w wa).trans (hoA.mono (fun b hb=>mcm _ hb))).trans (hset.mono (fun b hb=>by simp at hb;subst hb;simp)))
 have hLo:Lo φ W0.heap.size (hh::vA.ownBlock.toList):=fun b hb _=>by
  rcases List.mem_cons.1 hb with rfl|hb
  ·exact .inl (t0 b (by simp)).2.2
  ·exact .inr (.inl (t2 b hb).2.2)
 have hnew:Only (hh::vA.ownBlock.toList) W1 (w'.setCell ⟨hh,7,none⟩ v'):=((hoa.of_nil:Only (hh::vA.ownBlock.toList) W1 wa).trans (hoA.mono (fun b hb=>mcm _ hb))).trans (hset.mono (fun b hb=>by simp at hb;subst hb;simp))
 have hll:∀b∈(hh::vA.ownBlock.toList),b<w.heap.size:=fun b hb=>by
  rcases List.mem_cons.1 hb with rfl|hb
  ·exact(t0 b (by simp)).2.1
  ·exact(t2 b hb).2.1
 obtain⟨φ',hφ'⟩:∃φ':Nat->Ix×Nat,φ'=fun b=>if b<w.heap.size then φ b else if b<W1.heap.size then φ1 b else(.stat,2):=⟨_,rfl⟩
 have q0:∀b,b<w.heap.size->φ' b=φ b:=fun b hb=>by rw[hφ'];exact if_pos hb
 have q1:∀b,w.heap.size<=b->b<W1.heap.size->φ' b=φ1 b:=fun b hb hb'=>by rw[hφ'];dsimp only;rw[if_neg (by omega),if_pos hb']
 have q2:∀b,W1.heap.size<=b->φ' b=(.stat,2):=fun b hb=>by rw[hφ'];dsimp only;rw[if_neg (by omega),if_neg (by omega)]
 have up:∀{x:Ix×Nat} {fp:List Nat},Tg W0.heap.size w φ x fp->Tg W0.heap.size (w'.setCell ⟨hh,7,none⟩ v') φ' x fp:=fun h=>h.re (Nat.le_refl _) (by omega) (fun b _ hb=>q0 b hb)
 refine⟨hB'.cell_ 7 rfl,hB'.frozen 7,⟨⟨φ',v',vT,fun k=>if k=i then d else D k,cq,fs,fq,hB'.set_ 7 v',k2.only hall (fun ad e=>by cases e;exact t1.off (hLo.ne (fun e=>by cases e) (fun e=>by cases e) (fun e=>by cases e)) _ (by simp)),k3.only hall (t7.off (hLo.ne (fun e=>by cases e) (fun e=>by cases e) (fun e=>by cases e)) _ (by simp)),?_,own_only k5 hall (fun k hk hx=>?_),(LivSt.framed _ _).only k6 hall (t4.off (hLo.x (fun e=>by cases e) (fun e=>by cases e))),k7.only hall (t5.off (hLo.x (fun e=>by cases e) (fun e=>by cases e))),fun a ha=>?_,fun t ht=>?_,up t0,up t1,fun b hb=>?_,up t3,up t4,up t5,up t7⟩,?_⟩⟩
 ·rw[ptrL]
  dsimp only
  rw[if_pos rfl,ptrL_congr i (f:=fun a=>(if a=i then d else D a).ar) (g:=fun a=>(D a).ar) (fun k hk=>by rw[if_neg (by omega)])]
  refine own_only hown hset (fun k hk=>?_)
  simp
  rcases hat with e|e
  ·rintro rfl
   exact hnh (Option.mem_toList.2 (e.symm.trans hk))
  ·have e3:wa.heap.size=k:=Option.some.inj (e.symm.trans hk)
   have:=(t0 hh (by simp)).2.1
   omega
 ·have r1:=(t3 k (Option.mem_toList.2 hk)).2.2
  rcases List.mem_cons.1 hx with e|hx
  ·have:=(t0 k (by simp[e])).2.2
   rw[r1] at this;cases this
  ·have:=(t2 k hx).2.2
   rw[r1] at this;cases this
 ·dsimp only
  by_cases e:a=i
  ·subst e
   rw[if_pos rfl]
   exact hK.re hnew (fun b hb hx=>absurd (hll b hb) (by omega)) s0 (fun b hb hb'=>q1 b hb hb')
  ·rw[if_neg e]
   exact(k8 a (by omega)).re hall hLo (Nat.le_refl _) (fun b _ hb=>q0 b hb)
 ·obtain⟨r1,r2⟩:=k9 t ht
  exact⟨(CaSt.framed _ _ _ _).only r1 hall (r2.off (hLo.x (fun e=>by cases e) (fun e=>by cases e))),up r2⟩
 ·rcases hat with e|e
  ·exact up t2 b (by rw[<-e];exact hb)
  ·have e3:wa.heap.size=b:=Option.some.inj (e.symm.trans (Option.mem_toList.1 hb))
   exact⟨by omega,by rw[hsz];exact own_lt' hown b (Option.mem_toList.1 hb),q2 b (by omega)⟩
 ·refine ho.then_ hall (fun b hb=>.inr ?_)
  rcases List.mem_cons.1 hb with rfl|hb
  ·exact(t0 b (by simp)).1
  ·exact(t2 b hb).1
theorem thread (h:HpB T bud room na nt hh g2 c2 sp gL cb i j W0 w):∃(vA vT:Value) (A A':Option Addr) (c c':Nat) (xs:List Value),vA=.slice A i c/\vT=.slice A' j c'/\
 (∀W,Only [] w W->Blk W hh 90 #[.slice (some ⟨g2,0,none⟩) T.length c2,.int .i64 256,.int .i64 na,.int .i64 nt,.int .i64 bud,.int .i64 room,.pointer (some ⟨sp,0,none⟩),vA,vT,.map (some gL)]/\W.ownsRow W0.heap.size 118 3 vT j xs)/\
 ∀W1 q fp,Only [] w W1->CaSt q T bud (fun _=>none) W1 fp->(∀x∈fp,w.heap.size<=x)->∀wa,Only [] W1 wa->∀v' w',w'.ownsRow W0.heap.size 118 3 v' (j+1) (xs++[.pointer (some ⟨q,0,none⟩),.slice none 0 0,.nilIface])->wa.grownBy w' vT.ownBlock->(v'.ownBlock=vT.ownBlock\/v'.ownBlock=some wa.heap.size)->
  w'.cell? ⟨hh,8,none⟩=some vT/\w'.frozen? ⟨hh,8,none⟩=false/\HpB T bud room na nt hh g2 c2 sp gL cb i (j+1) W0 (w'.setCell ⟨hh,8,none⟩ v'):=by
 obtain⟨⟨φ,vA,vT,D,cq,fs,fq,k1,k2,k3,k4,k5,k6,k7,k8,k9,t0,t1,t2,t3,t4,t5,t7⟩,ho⟩:=h
 obtain⟨A,c,e1,_⟩:=own_slice k4
 obtain⟨A',c',e2,_⟩:=own_slice k5
 refine⟨vA,vT,A,A',c,c',_,e1,e2,fun W hW=>⟨k1.only hW (by simp),own_only k5 hW (by simp)⟩,fun W1 q fp ho1 hC hfp wa hoa v' w' hown hg hat=>?_⟩
 have hoA:Only vT.ownBlock.toList wa w':=(Only.refl _ wa).grown hg (fun k hk=>.inl (Option.mem_toList.2 hk))
 have hset:Only [hh] w' (w'.setCell ⟨hh,8,none⟩ v'):=(Only.refl [hh] w').setCell (p:=⟨hh,8,none⟩) (.inl (by simp)) _
 have hsz:(w'.setCell ⟨hh,8,none⟩ v').heap.size=w'.heap.size:=by simp[World.setCell]
 have s1:=ho1.size
 have s2:=hoa.size
 have s3:=hoA.size
 have s0:=ho.size
 have hnh:hh∉vT.ownBlock.toList:=fun hx=>by
  have q1:=(t0 hh (by simp)).2.2
  have q2:=(t3 hh hx).2.2
  rw[q1] at q2
  cases q2
 have hB':Blk w' hh _ _:=((k1.only ho1 (by simp)).only hoa (by simp)).only hoA hnh
 have hnew:Only (hh::vT.ownBlock.toList) W1 (w'.setCell ⟨hh,8,none⟩ v'):=((hoa.of_nil:Only (hh::vT.ownBlock.toList) W1 wa).trans (hoA.mono (fun b hb=>mcm _ hb))).trans (hset.mono (fun b hb=>by simp at hb;subst hb;simp))
 have hall:Only (hh::vT.ownBlock.toList) w (w'.setCell ⟨hh,8,none⟩ v'):=(ho1.of_nil:Only (hh::vT.ownBlock.toList) w W1).trans hnew
 have hLo:Lo φ W0.heap.size (hh::vT.ownBlock.toList):=fun b hb _=>by
  rcases List.mem_cons.1 hb with rfl|hb
  ·exact .inl (t0 b (by simp)).2.2
  ·exact .inr (.inr (t3 b hb).2.2)
 have hll:∀b∈(hh::vT.ownBlock.toList),b<w.heap.size:=fun b hb=>by
  rcases List.mem_cons.1 hb with rfl|hb
  ·exact(t0 b (by simp)).2.1
  ·exact(t3 b hb).2.1
 obtain⟨φ',hφ'⟩:∃φ':Nat->Ix×Nat,φ'=fun b=>if b<w.heap.size then φ b else if b<W1.heap.size then(.cac j,0) else(.row,0):=⟨_,rfl⟩
 have q0:∀b,b<w.heap.size->φ' b=φ b:=fun b hb=>by rw[hφ'];exact if_pos hb
 have q1:∀b,w.heap.size<=b->b<W1.heap.size->φ' b=(.cac j,0):=fun b hb hb'=>by rw[hφ'];dsimp only;rw[if_neg (by omega),if_pos hb']
 have q2:∀b,W1.heap.size<=b->φ' b=(.row,0):=fun b hb=>by rw[hφ'];dsimp only;rw[if_neg (by omega),if_neg (by omega)]
 have up:∀{x:Ix×Nat} {fp:List Nat},Tg W0.heap.size w φ x fp->Tg W0.heap.size (w'.setCell ⟨hh,8,none⟩ v') φ' x fp:=fun h=>h.re (Nat.le_refl _) (by omega) (fun b _ hb=>q0 b hb)
 refine⟨hB'.cell_ 8 rfl,hB'.frozen 8,⟨⟨φ',vA,v',D,fun k=>if k=j then q else cq k,fs,fun k=>if k=j then fp else fq k,hB'.set_ 8 v',k2.only hall (fun ad e=>by cases e;exact t1.off (hLo.ne (fun e=>by cases e) (fun e=>by cases e) (fun e=>by cases e)) _ (by simp)),k3.only hall (t7.off (hLo.ne (fun e=>by cases e) (fun e=>by cases e) (fun e=>by cases e)) _ (by simp)),own_only k4 hall (fun k hk hx=>?_),?_,(LivSt.framed _ _).only k6 hall (t4.off (hLo.x (fun e=>by cases e) (fun e=>by cases e))),k7.only hall (t5.off (hLo.x (fun e=>by cases e) (fun e=>by cases e))),fun a ha=>(k8 a ha).re hall hLo (Nat.le_refl _) (fun b _ hb=>q0 b hb),fun t ht=>?_,up t0,up t1,up t2,fun b hb=>?_,up t4,up t5,up t7⟩,?_⟩⟩
 ·have r1:=(t2 k (Option.mem_toList.2 hk)).2.2
  rcases List.mem_cons.1 hx with e|hx
  ·have:=(t0 k (by simp[e])).2.2
   rw[r1] at this;cases this
  ·have:=(t3 k hx).2.2
   rw[r1] at this;cases this
 ·rw[thL,if_pos rfl,thL_congr j (f:=fun k=>if k=j then q else cq k) (g:=cq) (fun k hk=>if_neg (by omega))]
  refine own_only hown hset (fun k hk=>?_)
  simp
  rcases hat with e|e
  ·rintro rfl
   exact hnh (Option.mem_toList.2 (e.symm.trans hk))
  ·have e3:wa.heap.size=k:=Option.some.inj (e.symm.trans hk)
   have:=(t0 hh (by simp)).2.1
   omega
 ·dsimp only
  by_cases e:t=j
  ·subst e
   rw[if_pos rfl,if_pos rfl]
   refine⟨(CaSt.framed _ _ _ _).only hC hnew (fun b hb hx=>?_),fun b hb=>?_⟩
   ·have:=hfp b hb
    have:=hll b hx
    omega
   ·have:=hfp b hb
    have:=(CaSt.framed _ _ _ _).lt hC b hb
    exact⟨by omega,by omega,q1 b (by omega) (by omega)⟩
  ·rw[if_neg e,if_neg e]
   obtain⟨r1,r2⟩:=k9 t (by omega)
   exact⟨(CaSt.framed _ _ _ _).only r1 hall (r2.off (hLo.x (fun e=>by cases e) (fun e=>by cases e))),up r2⟩
 ·rcases hat with e|e
  ·exact up t3 b (by rw[<-e];exact hb)
  ·have e3:wa.heap.size=b:=Option.some.inj (e.symm.trans (Option.mem_toList.1 hb))
   exact⟨by omega,by rw[hsz];exact own_lt' hown b (Option.mem_toList.1 hb),q2 b (by omega)⟩
 ·refine ho.then_ hall (fun b hb=>.inr ?_)
  rcases List.mem_cons.1 hb with rfl|hb
  ·exact(t0 b (by simp)).1
  ·exact(t3 b hb).1
theorem done (h:HpB T bud room na nt hh g2 c2 sp gL cb na nt W0 w) (hE:V.Env w) (h3:3<=W0.heap.size) (hT:Z.isTable T) (hc:T.length<=c2) (h1:1<=na/\na<=4) (h2:1<=nt/\nt<=4) (hb:0<=bud/\bud<=65536) (hr:0<=room/\room<=8):∃P:Hp,P.h=hh/\P.T=T/\P.na=na/\P.nt=nt/\P.bud=bud/\P.room=room/\∃FP,HSys P (HS0 fun _=>.slice none 0 0) w FP/\∀b∈FP,W0.heap.size<=b:=by
 obtain⟨⟨φ,vA,vT,D,cq,fs,fq,k1,k2,k3,k4,k5,k6,k7,k8,k9,t0,t1,t2,t3,t4,t5,t7⟩,ho⟩:=h
 obtain⟨gA,cA,rfl,hcA,hrA⟩:=row_own k4 (by omega)
 obtain⟨gT,cT,rfl,hcT,hrT⟩:=row_own k5 (by omega)
 have hgA:=t2 gA (by simp[Value.ownBlock])
 have hgT:=t3 gT (by simp[Value.ownBlock])
 have hh0:=t0 hh (by simp)
 have hg2:=t1 g2 (by simp)
 obtain⟨F,hF⟩:∃F:Ix->List Nat,F=fun x=>match x with
  | .stat=>hh::g2::gA::(List.range na).flatMap (fun a=>[(D a).ar,(D a).g2,(D a).gc,(D a).gx])
  | .row=>[gT]
  | .liv=>[gL]
  | .spc=>fs
  | .bud a=>if a<na then(D a).f1 else []
  | .hug a=>if a<na then(D a).f2 else []
  | .pmp a=>if a<na then(D a).f3 else []
  | .run a=>if a<na then [(D a).rn] else []
  | .cen a k=>if a<na/\k<T.length then(D a).fc k else []
  | .tra a k=>if a<na/\k<T.length then(D a).ft k else []
  | .cac t=>if t<nt then fq t else []
  | .han _=>[]:=⟨_,rfl⟩
 have key:∀x,∀b∈F x,W0.heap.size<=b/\b<w.heap.size/\(φ b).1=x:=by
  have tk:∀{x:Ix} {n:Nat} {fp:List Nat},Tg W0.heap.size w φ (x,n) fp->∀b∈fp,W0.heap.size<=b/\b<w.heap.size/\(φ b).1=x:=fun h b hb=>by
   obtain⟨q1,q2,q3⟩:=h b hb
   exact⟨q1,q2,by rw[q3]⟩
  have nl:∀{x:Ix} {p:Prop} [Decidable p] {fp:List Nat},(p->∀b∈fp,W0.heap.size<=b/\b<w.heap.size/\(φ b).1=x)->∀b∈(if p then fp else []),W0.heap.size<=b/\b<w.heap.size/\(φ b).1=x:=fun {x p _ fp} h b hb=>by
   by_cases hp:p
   ·rw[if_pos hp] at hb;exact h hp b hb
   ·rw[if_neg hp] at hb;cases hb
  intro x
  rw[hF]
  cases x with
  |stat=>
   intro b hb
   dsimp only at hb
   rcases List.mem_cons.1 hb with rfl|hb
   ·exact tk t0 _ (by simp)
   ·rcases List.mem_cons.1 hb with rfl|hb
    ·exact tk t1 _ (by simp)
    ·rcases List.mem_cons.1 hb with rfl|hb
     ·exact tk t2 _ (by simp[Value.ownBlock])
     ·obtain⟨a,ha,hb⟩:=List.mem_flatMap.1 hb
      exact tk (k8 a (List.mem_range.1 ha)).st b hb
  |row=>exact tk (x:=.row) (n:=0) (fun b hb=>t3 b (by simpa[Value.ownBlock] using hb))
  |liv=>exact tk t4
  |spc=>exact tk t5
  |bud a=>exact nl (fun ha=>tk (k8 a ha).t1)
  |hug a=>exact nl (fun ha=>tk (k8 a ha).t2)
  |pmp a=>exact nl (fun ha=>tk (k8 a ha).t3)
  |run a=>exact nl (fun ha=>tk (k8 a ha).t4)
  |cen a k=>exact nl (fun ha=>tk ((k8 a ha.1).tk k ha.2).1)
  |tra a k=>exact nl (fun ha=>tk ((k8 a ha.1).tk k ha.2).2)
  |cac t=>exact nl (fun ht=>tk (k9 t ht).2)
  |han t=>intro b hb;cases hb
 have klt:∀x,∀b∈F x,b<w.heap.size:=fun x b hb=>(key x b hb).2.1
 refine⟨⟨hh,T,bud,room,na,nt,⟨g2,0,none⟩,c2,sp,gA,cA,gT,cT,gL,fun a=>(D a).ar,fun a=>⟨(D a).g2,0,none⟩,fun a=>(D a).c2,fun a=>(D a).bd,fun a=>(D a).hu,fun a=>(D a).pm,fun a=>(D a).rn,fun a=>(D a).gc,fun a=>(D a).cc,fun a=>(D a).gx,fun a=>(D a).cx,fun a=>(D a).ce,fun a=>(D a).tr,cq⟩,rfl,rfl,rfl,rfl,rfl,rfl,(List.range w.heap.size).filter (fun b=>decide (W0.heap.size<=b)),⟨hE,fun b hb=>?_,fun b hb=>?_,F,fun x=>?_,fun x y hxy b hb hb'=>?_,fun x b hb=>?_⟩,fun b hb=>?_⟩
 ·have:=of_decide_eq_true (List.mem_filter.1 hb).2
  omega
 ·exact List.mem_range.1 (List.mem_filter.1 hb).1
 ·have gdn:∀{p:Prop} [Decidable p] {Sx:World->List Nat->Prop} {fp:List Nat},(∀b∈(if p then fp else []),b<w.heap.size)->(p->Sx w fp)->gd p Sx w (if p then fp else []):=fun {p _ Sx fp} hl h=>⟨fun hp=>by rw[if_pos hp];exact h hp,hl⟩
  have kx:=klt x
  have hst:=klt .stat
  rw[hF] at kx hst ⊢
  cases x with
  |stat=>
   dsimp only at kx hst ⊢
   have hm:∀a,a<na->∀b,b∈ [(D a).ar,(D a).g2,(D a).gc,(D a).gx]->b∈hh::g2::gA::(List.range na).flatMap (fun a=>[(D a).ar,(D a).g2,(D a).gc,(D a).gx]):=fun a ha b hb=>by
    simp only[List.mem_cons,List.mem_flatMap,List.mem_range]
    exact .inr (.inr (.inr ⟨a,ha,by simpa using hb⟩))
   exact {blk:=k1,isT:=hT,tab:=k2,tc:=hc,ra:=by have:=hrA (fun a=>.pointer (some ⟨(D a).ar,0,none⟩)) (fun k hk=>ptrL_at (fun a=>(D a).ar) na k (by omega));rwa[Nat.mul_one] at this,cA:=hcA,cT:=hcT,na:=h1,nt:=h2,bb:=hb,rr:=hr,mem:=⟨by simp,by simp,by simp⟩,ars:=fun a ha=>⟨(k8 a ha).blk,(k8 a ha).tab,(k8 a ha).tc,(k8 a ha).rc,(k8 a ha).cc,(k8 a ha).rx,(k8 a ha).cx,hm a ha _ (by simp),hm a ha _ (by simp),hm a ha _ (by simp),hm a ha _ (by simp)⟩,lt:=kx}
  |row=>
   refine⟨?_,rfl⟩
   have:=hrT (rowF ⟨hh,T,bud,room,na,nt,⟨g2,0,none⟩,c2,sp,gA,cA,gT,cT,gL,fun a=>(D a).ar,fun a=>⟨(D a).g2,0,none⟩,fun a=>(D a).c2,fun a=>(D a).bd,fun a=>(D a).hu,fun a=>(D a).pm,fun a=>(D a).rn,fun a=>(D a).gc,fun a=>(D a).cc,fun a=>(D a).gx,fun a=>(D a).cx,fun a=>(D a).ce,fun a=>(D a).tr,cq⟩ (fun _=>.slice none 0 0) (fun _=>.none)) (fun k hk=>thL_at cq nt k hk)
   rwa[Nat.mul_comm] at this
  |liv=>exact k6
  |spc=>exact k7
  |bud a=>exact gdn kx (fun ha=>(k8 a ha).bu)
  |hug a=>exact gdn kx (fun ha=>(k8 a ha).hu)
  |pmp a=>exact gdn kx (fun ha=>(k8 a ha).pm)
  |run a=>exact gdn kx (fun ha=>(k8 a ha).rn)
  |cen a k=>exact gdn (Sx:=fun w fp=>ListSt w ((D a).ce k) fp ⟨(Z.cAt T k).s,(Z.cAt T k).p,(Z.cAt T k).b⟩ []) kx (fun ha=>((k8 a ha.1).ls k ha.2).1)
  |tra a k=>exact gdn kx (fun ha=>((k8 a ha.1).ls k ha.2).2)
  |cac t=>exact gdn kx (fun ht=>(k9 t ht).1)
  |han t=>exact⟨fun _=>HaSt.nil _ _,fun b hb=>by cases hb⟩
 ·exact hxy ((key x b hb).2.2.symm.trans (key y b hb').2.2)
 ·exact List.mem_filter.2 ⟨List.mem_range.2 (klt x b hb),decide_eq_true (key x b hb).1⟩
 ·exact of_decide_eq_true (List.mem_filter.1 hb).2
end HpB
end Go.Proofs.YtcidjimefnhacaaGreatDoor
