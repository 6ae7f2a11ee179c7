/- TopSchedules, a part of the proof: FF, FG, FH, Pa, FI, EA. -/
import Derived.Test.YtcidjimefnhacaaGreatDoorM25
import Derived.Test.YtcidjimefnhacaaGreatDoorM22
set_option linter.unusedVariables false
set_option linter.unusedSimpArgs false
namespace Go.Proofs.YtcidjimefnhacaaGreatDoor
open Go.RowKit
set_option maxHeartbeats 2000000 in
theorem hhold_at {P:Hp} {S:HS} {w W:World} {FP:List Nat} {v:Value} {o:List Int} {bx:List (Nat×TypeId×Array Value)} (hc:Ctx P S w FP (OSt v o) bx W) {t:Nat} (ht:t<P.nt) (k:Nat) (hk:k<P.T.length) (h0:0<o.length) (h1:o.length<=256) (hl:(S.H t).length<=50):
 Calls Tryz.prog 86 #[.pointer (some ⟨P.h,0,none⟩),.int .i64 t,.int .i64 k,v] W fun e w'=>e=.returned (.tuple #[])/\∃v',Ctx P (S.hnd t v' (S.H t++[⟨k,v,o⟩])) w FP NoL bx w':=by
 have hc1:=hc.still (OSt.framed v o) ((Only.refl [] W).drew)
 have hc2:=hc1.push (OSt.framed v o) #[.int .i64 k,v] 205
 obtain⟨fs0,hos0⟩:=hc.part
 obtain⟨Av,cv,rfl,_,_⟩:=hos0.1.form
 obtain⟨f,fs,hHa,hOS,hdis,⟨gTf,hhf⟩,gTfs,gTlt,hgo⟩:=hc2.hands (OSt.framed _ o) ht
 obtain⟨A,c,fsH,e1,e2,e3,e4,e5,e6⟩:=hHa.opened
 have hlnH:=hHa.ln
 have hokH:=hHa.ok
 obtain⟨FP1,hs1⟩:=hc1.sys_
 obtain⟨FP2,hs2⟩:=hc2.sys_
 have z8:=hs1.hcells.c8
 have y8:=hs2.hcells.c8
 have z1:=(hs1.trow ht).2.1
 have y1:=(hs2.trow ht).2.1
 have yf:=(hs2.trow ht).2.2.2 (t*3+1)
 have hPh:=World.block_lt_of_cell? _ _ y8
 rw[e1] at z1 y1
 have HAT:Hid (AtH ((W.drew).alloc (.cells #[.int .i64 k,.slice Av o.length cv] 205)) A c (cellsH (S.H t)) (fun _=>True)):=fun b hb=>by obtain⟨g,off,cs,q1,q2,q3⟩:=e6 b hb;exact⟨g,off,cs,q1,trivial,q3⟩
 have HLEN:Hid ((cellsH (S.H t)).length=(S.H t).length *2):=cellsH_len _
 have HL2:Hid (∀w',Only f ((W.drew).alloc (.cells #[.int .i64 k,.slice Av o.length cv] 205)) w'->w'.cell? ⟨P.h,8,none⟩=some (.slice (some ⟨P.gT,0,none⟩) P.nt P.cT)/\w'.cell? ⟨P.gT,t*3+1,none⟩=some (.slice A (S.H t).length c)/\w'.frozen? ⟨P.gT,t*3+1,none⟩=false):=fun w' ho=>⟨(ho.cell (p:=⟨P.h,8,none⟩) hPh hhf).trans y8,(ho.cell (p:=⟨P.gT,t*3+1,none⟩) gTlt gTf).trans y1,(ho.frozen (p:=⟨P.gT,t*3+1,none⟩) gTlt gTf).trans yf⟩
 have HAPP:Hid (∀A' c' w',AppH ((W.drew).alloc (.cells #[.int .i64 k,.slice Av o.length cv] 205)) A (S.H t).length c 1 (cellsH (S.H t)) [.int .i64 k,.slice Av o.length cv] A' c' w'->Only f ((W.drew).alloc (.cells #[.int .i64 k,.slice Av o.length cv] 205)) w'/\Ctx P (S.hnd t (.slice A' ((S.H t).length+1) c') (S.H t++[⟨k,.slice Av o.length cv,o⟩])) w FP NoL bx (w'.setCell ⟨P.gT,t*3+1,none⟩ (.slice A' ((S.H t).length+1) c'))):=by
  intro A' c' w' hA
  obtain⟨f',q1,q2,q3⟩:=HaSt.app (Lb:=[⟨k,.slice Av o.length cv,o⟩]) (fs:=fs) e6 e4 e5 (fun b hb=>by rw[List.mem_singleton] at hb;subst hb;exact hOS.1) hdis hHa.lt hOS.2 hA rfl (fun b hb=>by
   rcases List.mem_append.1 hb with h|h
   ·exact hokH b h
   ·rw[List.mem_singleton] at h;subst h;exact⟨hk,h0,h1⟩) (by omega) hHa.nd (by simp)
  exact⟨q3,(hgo _ _ w' f' q3 q1 (fun b hb=>(q2 b hb).imp_right (fun h=>h.imp_right (fun h=>⟨h,fun x hx e=>by have:=(hc2.box hx).lt;omega⟩)))).less (fun x hx=>mcm _ hx)⟩
 obtain⟨_,_,n1,n2,_,n4,n5,n6,_⟩:=hs1.nums
 have y1':(W.alloc (.cells #[.int .i64 k,.slice Av o.length cv] 205)).cell? ⟨P.gT,t*3+1,none⟩=some (.slice A (S.H t).length c):=y1
 have y8':(W.alloc (.cells #[.int .i64 k,.slice Av o.length cv] 205)).cell? ⟨P.h,8,none⟩=some (.slice (some ⟨P.gT,0,none⟩) P.nt P.cT):=y8
 have E2:=Lib.hid e2
 have E3:=Lib.hid e3
 have hnewsB:Hid (∀(j:Nat) (u:Value),[Value.int .i64 k,.slice Av o.length cv][j]? =some u->((W.drew).alloc (.cells #[.int .i64 k,.slice Av o.length cv] 205)).cell? ((⟨W.heap.size,0,none⟩:Addr).add j)=some u):=news_new W.drew #[.int .i64 k,.slice Av o.length cv] _
 clear hc hc1 hc2 hos0 hHa hOS hdis hgo e1 e2 e3 e4 e5 e6 hs1 hs2 hokH gTf hhf gTfs hPh gTlt
 generalize hHl:(S.H t).length=n at *
 generalize cellsH (S.H t)=olds at *
 clear hHl
 generalize o.length=ol at *
 generalize hnt:P.nt=nt at *
 go_enter Tryz.func86,Tryz.ntmps86
 go_wp2_with fail
 go_region_law (first
  |(go_loud (refine step_appH (A:=A) (n:=n) (c:=c) (B:=some ⟨W.heap.size,0,none⟩) (m:=1) (cB:=1) (olds:=olds) (news:=[.int .i64 k,.slice Av ol cv]) rfl (.tmp 20) (.tmp 24) rfl rfl rfl E3.out E2.out HLEN.out HAT.out (fun _=>⟨_,rfl,hnewsB.out⟩) rfl (by simp[Value.oneCell']) (by omega) ?_);intro A' c' w' hA;obtain⟨q1,q2⟩:=HAPP.out A' c' w' hA;obtain⟨q3,q4,q5⟩:=HL2.out w' q1))
 all_goals go_wp2
 all_goals go_end0
 all_goals exact⟨rfl,_,q2⟩
theorem Ctx.lit {P:Hp} {Sc:HS} {w W:World} {FP:List Nat} {bx:List (Nat×TypeId×Array Value)} (h:Ctx P Sc w FP NoL bx W) (x:Int):Ctx P Sc w FP (OSt (.slice (some ⟨W.heap.size,0,none⟩) 1 1) [x]) bx (W.alloc (.cells #[.int .i64 x] 3)):=by
 obtain⟨h0,h1,⟨FPc,fs,h2,h3,h4,h5,h6⟩,h7⟩:=h
 have ho:Only [] W (W.alloc (.cells #[.int .i64 x] 3)):=(Only.refl [] W).alloc _
 refine⟨h0,h1.trans ho.of_nil,⟨FPc,[W.heap.size],h2.still ho,⟨.inr ⟨by simp,W.heap.size,by simp,⟨0,1,rfl,by simp,fun j hj=>?_⟩,by simp⟩,fun b hb=>by simp at hb;subst hb;simp⟩,h4,fun b hb=>?_,fun y hy=>⟨(h6 y hy).1,fun hb=>?_⟩⟩,fun y hy=>(h7 y hy).only ho (by simp)⟩
 ·have:j=0:=by simpa using hj
  subst this
  exact(Blk.new W 3 #[.int .i64 x]).cell_ 0 rfl
 ·simp at hb
  subst hb
  exact⟨.inr h1.size,fun hb=>by have:=h2.lt _ hb;omega⟩
 ·simp at hb
  have:=(h7 y hy).lt
  omega
def lvDel (lv:Int->Option Bk) (addr:Int):Int->Option Bk:=fun j=>if j=addr then none else lv j
theorem lvG_del (lv:Int->Option Bk) (addr:Int):∀j,(if j=addr then none else lvG lv j)=lvG (lvDel lv addr) j:=fun j=>by
 unfold lvG lvDel
 by_cases h:j=addr
 ·simp[h]
 ·simp[h]
def FoundP (P:Hp) (S:HS) (t:Nat) (addr:Int) (b:Bk) (w:World) (FP:List Nat) (e:Ending) (w':World):Prop:=
 (b.cls<0/\e=.returned (.tuple #[(Ph.give (addr/256) b.ar).val,.agg #[.int .i64 0,.int .i64 0]])/\Turns (HSys P {S with lv:=lvDel S.lv addr}) w FP w')\/
 (0<=b.cls/\e=.returned (.tuple #[(Ph.put b.cls.toNat addr).val,.agg #[.int .i64 0,.int .i64 0]])/\∃v v',Turns (HSys P (({S with lv:=lvDel S.lv addr}:HS).hnd t v' (S.H t++[⟨b.cls.toNat,v,[addr]⟩]))) w FP w')
set_option maxHeartbeats 2000000 in
theorem hfind_at {P:Hp} {S:HS} {w:World} {FP:List Nat} (h:HSys P S w FP) {t:Nat} (ht:t<P.nt) {addr:Int} (h0:0<=addr/\addr<65536) {b:Bk} (hb:S.lv addr=some b) (hcl:0<=b.cls->b.cls<P.T.length) (hl:(S.H t).length<=50):
 Calls Tryz.prog 91 #[.pointer (some ⟨P.h,0,none⟩),.int .i64 t,.int .i64 addr] w (FoundP P S t addr b w FP):=by
 have hka:I64 addr:=by unfold I64;omega
 have HG:Hid (lvG S.lv addr=some (.agg #[.int .i64 addr,.int .i64 b.size,.int .i64 b.cls,.int .i64 b.ar])):=(by unfold lvG;rw[hb];rfl:lvG S.lv addr=_)
 have c0:=(Ctx.start h).push NoL.framed #[.int .i64 0,.int .i64 0] 66
 have c1:=c0.push NoL.framed #[.int .i64 addr,.int .i64 b.size,.int .i64 b.cls,.int .i64 b.ar] 83
 rw[show(w.alloc (.cells #[.int .i64 0,.int .i64 0] 66)).heap.size=w.heap.size+1 by simp] at c1
 have B3:=Lib.hid h.big
 have HT:=Lib.hid ht
 have HHl:=Lib.hid hl
 obtain⟨FP0,hs0⟩:=c0.sys_
 obtain⟨FP1,hs1⟩:=c1.sys_
 have z9:=hs0.hcells.c9
 have y9:=hs1.hcells.c9
 obtain⟨cI0,hI0⟩:=hs0.live
 obtain⟨cI1,hI1⟩:=hs1.live
 have HI0:=Lib.hid hI0
 have HI1:=Lib.hid hI1
 have HC1:=Lib.hid c1
 have hq:addr.tdiv 256=addr/256:=Int.tdiv_eq_ediv_of_nonneg h0.1
 have hw:IntKind.i64.wrap (addr/256)=addr/256:=IntWalk.i64_in _ (by omega)
 have hT40:=h.isT.2.1
 clear h hb c0 c1 hs0 hs1 hI0 hI1 ht hl
 obtain⟨size,cls,ar⟩:=b
 dsimp only at *
 by_cases hcl0:cls<0
 ·have d1:decide (cls<0)=true:=decide_eq_true hcl0
  go_enter Tryz.func91,Tryz.ntmps91
  go_wp2_with (first
   |(at_lookup;refine wpList_lookOk rfl _ _ _ _ rfl und_mlb zero_bk rfl HI0.out rfl hka ?_;rw[HG.out,Option.getD_some,Option.isSome_some])
   |(at_delete;refine wpList_del rfl _ _ 88 83 rfl und_mlb rfl HI1.out rfl hka ?_;intro w2 ho2 hI2;have c2:=Lib.hid (HC1.out.step NoL.framed (S2:={S with lv:=lvDel S.lv addr}) (fun FPc hs=>hs.setLive ho2 hI2 (lvG_del S.lv addr)));have bb:=c2.out.box (mcs ..);have br:=c2.out.box (mcm _ (mcs ..));have x2:=bb.cell_ 2 rfl;have x3:=bb.cell_ 3 rfl;have r0:=br.cell_ 0 rfl;have r1:=br.cell_ 1 rfl;have f0:=br.frozen 0;have f1:=br.frozen 1;clear bb br))
  have c3:=(c2.out.less (bx':=[(w.heap.size,66,#[.int .i64 0,.int .i64 0])]) (by simp)).setBox (by simp) (Nat.le_refl _) B3.out 0 (.int .i64 0) |>.setBox (by simp) (Nat.le_refl _) B3.out 1 (.int .i64 0)
  have by_:=c3.box (mcs ..)
  refine bodyPost_ret (results_pr rfl rfl (by_.cell_ 0 rfl) (by_.cell_ 1 rfl)) rfl ?_
  exact .inl ⟨hcl0,rfl,c3.turns⟩
 ·have d1:decide (cls<0)=false:=decide_eq_false hcl0
  have hcl1:=hcl (by omega)
  obtain⟨k,rfl⟩:∃k:Nat,cls=k:=⟨cls.toNat,by omega⟩
  have hk:k<P.T.length:=by omega
  have CH:=Lib.hid (fun (W:World) (v:Value) (hc:Ctx P {S with lv:=lvDel S.lv addr} w FP (OSt v [addr]) [(w.heap.size+1,83,#[.int .i64 addr,.int .i64 size,.int .i64 (k:Nat),.int .i64 ar]),(w.heap.size,66,#[.int .i64 0,.int .i64 0])] W)=>hhold_at hc HT.out k hk (by simp) (by simp) HHl.out)
  clear hcl hcl0 hcl1
  go_enter Tryz.func91,Tryz.ntmps91
  go_wp2_with (first
   |(at_lookup;refine wpList_lookOk rfl _ _ _ _ rfl und_mlb zero_bk rfl HI0.out rfl hka ?_;rw[HG.out,Option.getD_some,Option.isSome_some])
   |(at_delete;refine wpList_del rfl _ _ 88 83 rfl und_mlb rfl HI1.out rfl hka ?_;intro w2 ho2 hI2;have c2:=Lib.hid (HC1.out.step NoL.framed (S2:={S with lv:=lvDel S.lv addr}) (fun FPc hs=>hs.setLive ho2 hI2 (lvG_del S.lv addr)));have bb:=c2.out.box (mcs ..);have x2:=bb.cell_ 2 rfl;clear bb))
  refine(CH.out _ _ (c2.out.lit addr)).mono ?_
  rintro r w3 ⟨rfl,v',hc3⟩
  have HC3:=Lib.hid hc3
  have bb:=hc3.box (mcs ..)
  have br:=hc3.box (mcm _ (mcs ..))
  have y2:=bb.cell_ 2 rfl
  have r0:=br.cell_ 0 rfl
  have r1:=br.cell_ 1 rfl
  have f0:=br.frozen 0
  have f1:=br.frozen 1
  clear bb br hc3 CH
  go_wp2_with fail
  have c3:=(HC3.out.less (bx':=[(w.heap.size,66,#[.int .i64 0,.int .i64 0])]) (by simp)).setBox (by simp) (Nat.le_refl _) B3.out 0 (.int .i64 0) |>.setBox (by simp) (Nat.le_refl _) B3.out 1 (.int .i64 0)
  have by_:=c3.box (mcs ..)
  refine bodyPost_ret (results_pr rfl rfl (by_.cell_ 0 rfl) (by_.cell_ 1 rfl)) rfl ?_
  exact .inr ⟨Int.natCast_nonneg k,by rw[show(k:Int).toNat=k from Int.toNat_natCast k];rfl,_,v',by rw[show(k:Int).toNat=k from Int.toNat_natCast k];exact c3.turns⟩
theorem Ctx.fresh {P:Hp} {Sc:HS} {w W W':World} {FP:List Nat} {Ls Ls':World->List Nat->Prop} {bx:List (Nat×TypeId×Array Value)} (h:Ctx P Sc w FP Ls bx W) (ho:Only [] W W') {fs':List Nat} (hL:Ls' W' fs') (hf:∀b∈fs',W.heap.size<=b):Ctx P Sc w FP Ls' bx W':=by
 obtain⟨h0,h1,⟨FPc,fs,h2,h3,h4,h5,h6⟩,h7⟩:=h
 exact⟨h0,h1.trans ho.of_nil,⟨FPc,fs',h2.still ho,hL,h4,fun b hb=>⟨.inr (Nat.le_trans h1.size (hf b hb)),fun hb2=>by have:=h2.lt b hb2;have:=hf b hb;omega⟩,fun x hx=>⟨(h6 x hx).1,fun hb=>by have:=(h7 x hx).lt;have:=hf _ hb;omega⟩⟩,fun x hx=>(h7 x hx).only ho (by simp)⟩
def sumC (pl:Nat->List Int):Nat->Int->Nat
 |0,_=>0
 |n+1,x=>sumC pl n x+(pl n).count x
theorem sumC_upd (pl:Nat->List Int) (a:Nat) (y:Int) (n:Nat) (x:Int):sumC (upd pl a (pl a++[y])) n x=sumC pl n x+(if a<n/\y=x then 1 else 0):=by
 induction n with
 |zero=>simp[sumC]
 |succ n ih=>
  rw[sumC,sumC,ih]
  by_cases h:n=a
  ·subst h
   rw[upd_at,List.count_append,if_neg (by omega)]
   by_cases e:y=x
   ·subst e
    rw[if_pos ⟨by omega,rfl⟩,List.count_singleton_self]
    omega
   ·rw[if_neg (fun h=>e h.2)]
    have:List.count x [y]=0:=by simp[List.count_cons,e]
    omega
  ·rw[upd_ne h]
   by_cases e:a<n/\y=x
   ·rw[if_pos e,if_pos ⟨by omega,e.2⟩];omega
   ·rw[if_neg e,if_neg (fun h2=>e ⟨by omega,h2.2⟩)];omega
theorem sumC_le (pl:Nat->List Int) {a n:Nat} (h:a<n) (x:Int):(pl a).count x<=sumC pl n x:=by
 induction n with
 |zero=>omega
 |succ n ih=>
  rw[sumC]
  rcases Nat.lt_or_ge a n with h1|h1
  ·have:=ih h1;omega
  ·have e:a=n:=by omega
   subst e;omega
theorem sumC_nil (n:Nat) (x:Int):sumC (fun _=>[]) n x=0:=by
 induction n with
 |zero=>rfl
 |succ n ih=>rw[sumC,ih];rfl
def ptM (M:List Sp) (l:List Int):List Sp:=if l=[] then M else putM M l
def ptR (M:List Sp) (l:List Int):List (Int×Int):=if l=[] then [] else putR M l
structure TOk (S:HS) (a k:Nat) (l:List Int):Prop where
 len:(putR (S.M a k) l).length<=1024
 ok:∀i,i<(putR (S.M a k) l).length->0<=(rAt (putR (S.M a k) l) i).1/\1<=(rAt (putR (S.M a k) l) i).2/\(rAt (putR (S.M a k) l) i).1+(rAt (putR (S.M a k) l) i).2<=256
 ap:∀i j,i<j->j<(putR (S.M a k) l).length->∀x,(rAt (putR (S.M a k) l) i).1<=x->x<(rAt (putR (S.M a k) l) i).1+(rAt (putR (S.M a k) l) i).2->(rAt (putR (S.M a k) l) j).1<=x->x<(rAt (putR (S.M a k) l) j).1+(rAt (putR (S.M a k) l) j).2->False
 fr:∀i,i<(putR (S.M a k) l).length->∀x,(rAt (putR (S.M a k) l) i).1<=x->x<(rAt (putR (S.M a k) l) i).1+(rAt (putR (S.M a k) l) i).2->¬bF (S.B a) x
def bkM (S:HS) (k:Nat) (pl:Nat->List Int) (i:Nat):Nat->Nat->List Sp:=fun a j=>if a<i/\j=k then ptM (S.M a k) (pl a) else S.M a j
structure BkR (S:HS) (k:Nat) (pl:Nat->List Int) (i:Nat) (B':Nat->Nat->Int->Bool) (L':Nat->Nat->Int):Prop where
 b:∀a,a<i->∀x,bF (B' a) x↔bF (S.B a) x\/∃j,j<(ptR (S.M a k) (pl a)).length/\(rAt (ptR (S.M a k) (pl a)) j).1<=x/\x<(rAt (ptR (S.M a k) (pl a)) j).1+(rAt (ptR (S.M a k) (pl a)) j).2
 l:∀a,SameL (S.L a) (L' a)
 bo:∀a,i<=a->B' a=S.B a
 lo:∀a,i<=a->L' a=S.L a
def HS.bks (S:HS) (k:Nat) (pl:Nat->List Int) (i:Nat) (B':Nat->Nat->Int->Bool) (L':Nat->Nat->Int):HS:={S with M:=bkM S k pl i,B:=B',L:=L'}
theorem BkR.zero (S:HS) (k:Nat) (pl:Nat->List Int):BkR S k pl 0 S.B S.L:=⟨fun a h=>absurd h (Nat.not_lt_zero a),fun _=>SameL.refl _,fun _ _=>rfl,fun _ _=>rfl⟩
theorem HS.bks_zero (S:HS) (k:Nat) (pl:Nat->List Int):S.bks k pl 0 S.B S.L=S:=by
 unfold HS.bks
 have e:bkM S k pl 0=S.M:=by
  funext a j
  unfold bkM
  rw[if_neg (by omega)]
 rw[e]
theorem BkR.skip {S:HS} {k:Nat} {pl:Nat->List Int} {i:Nat} {B':Nat->Nat->Int->Bool} {L':Nat->Nat->Int} (h:BkR S k pl i B' L') (he:pl i=[]):BkR S k pl (i+1) B' L'/\S.bks k pl (i+1) B' L'=S.bks k pl i B' L':=by
 constructor
 ·refine⟨fun a ha x=>?_,h.l,fun a ha=>h.bo a (by omega),fun a ha=>h.lo a (by omega)⟩
  rcases Nat.lt_or_ge a i with h1|h1
  ·exact h.b a h1 x
  ·have e:a=i:=by omega
   subst e
   rw[h.bo a (Nat.le_refl _),he]
   exact⟨fun h=>.inl h,fun h=>h.resolve_right (fun ⟨j,hj,_⟩=>absurd hj (by unfold ptR;simp))⟩
 ·unfold HS.bks
  have e:bkM S k pl (i+1)=bkM S k pl i:=by
   funext a j
   unfold bkM
   by_cases h1:a<i/\j=k
   ·rw[if_pos h1,if_pos ⟨by omega,h1.2⟩]
   ·rw[if_neg h1]
    split
    ·rename_i h2
     have e:a=i:=by omega
     subst e
     rw[he,h2.2];rfl
    ·rfl
  rw[e]
theorem BkR.put {S:HS} {k:Nat} {pl:Nat->List Int} {i:Nat} {B':Nat->Nat->Int->Bool} {L':Nat->Nat->Int} (h:BkR S k pl i B' L') (he:pl i≠ []) {B2:Nat->Int->Bool} {L2:Nat->Int}
 (hb:∀x,bF B2 x↔bF (S.B i) x\/∃j,j<(putR (S.M i k) (pl i)).length/\(rAt (putR (S.M i k) (pl i)) j).1<=x/\x<(rAt (putR (S.M i k) (pl i)) j).1+(rAt (putR (S.M i k) (pl i)) j).2) (hl:SameL (S.L i) L2):
 BkR S k pl (i+1) (upd B' i B2) (upd L' i L2)/\({S.bks k pl i B' L' with M:=upd2 (S.bks k pl i B' L').M i k (putM (S.M i k) (pl i))}:HS).bk i B2 L2=S.bks k pl (i+1) (upd B' i B2) (upd L' i L2):=by
 have eR:ptR (S.M i k) (pl i)=putR (S.M i k) (pl i):=if_neg he
 have eM:ptM (S.M i k) (pl i)=putM (S.M i k) (pl i):=if_neg he
 constructor
 ·refine⟨fun a ha x=>?_,fun a=>?_,fun a ha=>by rw[upd_ne (by omega)];exact h.bo a (by omega),fun a ha=>by rw[upd_ne (by omega)];exact h.lo a (by omega)⟩
  ·rcases Nat.lt_or_ge a i with h1|h1
   ·rw[upd_ne (by omega)];exact h.b a h1 x
   ·have e:a=i:=by omega
    subst e
    rw[upd_at,eR];exact hb x
  ·by_cases e:a=i
   ·subst e;rw[upd_at];exact hl
   ·rw[upd_ne e];exact h.l a
 ·unfold HS.bk HS.bks
  have e:upd2 (bkM S k pl i) i k (putM (S.M i k) (pl i))=bkM S k pl (i+1):=by
   funext a j
   unfold upd2 bkM
   by_cases h1:a=i/\j=k
   ·rw[if_pos h1,if_pos ⟨by omega,h1.2⟩,h1.1,eM]
   ·rw[if_neg h1]
    by_cases h2:a<i/\j=k
    ·rw[if_pos h2,if_pos ⟨by omega,h2.2⟩]
    ·rw[if_neg h2,if_neg (fun h3=>h1 ⟨by omega,h3.2⟩)]
  dsimp only
  rw[e]
theorem bks_at {S:HS} {k:Nat} {pl:Nat->List Int} {i:Nat} {B':Nat->Nat->Int->Bool} {L':Nat->Nat->Int} (h:BkR S k pl i B' L'):(S.bks k pl i B' L').M i k=S.M i k/\(S.bks k pl i B' L').B i=S.B i/\(S.bks k pl i B' L').L i=S.L i:=by
 refine⟨?_,h.bo i (Nat.le_refl _),h.lo i (Nat.le_refl _)⟩
 show bkM S k pl i i k=_
 unfold bkM
 rw[if_neg (by omega)]
def PSt (na g:Nat) (pv:Nat->Value) (pl:Nat->List Int) (w:World) (fs:List Nat):Prop:=(V.Row w g na pv/\g∈fs/\∀j,j<na->OSl w (pv j) fs (pl j))/\∀b∈fs,b<w.heap.size
theorem PSt.framed (na g:Nat) (pv:Nat->Value) (pl:Nat->List Int):Framed (PSt na g pv pl):=by
 constructor
 ·rintro w w' fp l ⟨⟨h1,h2,h3⟩,h4⟩ ho hb
  exact⟨⟨h1.only ho (hb _ h2),h2,fun j hj=>(h3 j hj).only ho hb⟩,fun b hb'=>Nat.lt_of_lt_of_le (h4 b hb') ho.size⟩
 ·rintro w fp ⟨_,h⟩ b hb
  exact h b hb
structure InvC (P:Hp) (sp:V.SpM) (M:Nat->Nat->List Sp) (B:Nat->Nat->Int->Bool) (L:Nat->Nat->Int) (R:Nat->Int->Option Int) (who:Who):Prop where
 n:sp.n=256
 cen:∀a k,a<P.na->k<P.T.length->CenOwn (P.cl k) who (.cen a k) (M a k)
 pgs:∀a k,a<P.na->k<P.T.length->∀b,Pg (M a k) b->who b=.cen a k\/∃h x,who b=.tok h k x
 bud:∀a x,a<P.na->bF (B a) x->Has who (.bud a) (x*256) 256
 spc:∀b,who b=.spc↔¬(0<=b/\b<65536/\sp.st (b/256)≠0)
 lo:∀x:Int,x<16->sp.st x=0
 own:∀b,who b≠ .spc->∃a,a<P.na/\L a (b/256).toNat≠0
 hugU:∀a j,a<P.na->(L a j=0↔L a (16*(j/16))=0)
 run:∀a s p,a<P.na->R a s=some p->1<=p/\(Has who (.big a s) (s*256) (p*256)\/∃t,Has who (.giv t a s) (s*256) (p*256))
 tin:∀y h k x,who y=.tok h k x->x<=y/\y<x+szK P.T k
 dis:∀a k a' k' y,a<P.na->k<P.T.length->a'<P.na->k'<P.T.length->Pg (M a k) y->Pg (M a' k') y->a=a'/\k=k'
structure TokRen (f:Ow->Ow):Prop where
 o:∀o,(∀h k x,o≠ .tok h k x)->f o=o
 t:∀h k x,∃h',f (.tok h k x)=.tok h' k x
theorem TokRen.hand (h1 h2:Hd) (d:Int->Int->Nat):TokRen (Go.Proofs.YtcidjimefnhacaaGreatDoor.hand h1 h2 d):=by
 constructor
 ·intro o ho
  cases o with
  |tok h k x=>exact absurd rfl (ho h k x)
  |_=>rfl
 ·intro h k x
  unfold Go.Proofs.YtcidjimefnhacaaGreatDoor.hand
  dsimp only
  split
  ·exact⟨_,rfl⟩
  ·exact⟨_,rfl⟩
theorem TokRen.iff {f:Ow->Ow} (hf:TokRen f) {o o':Ow} (ho:∀h k x,o≠ .tok h k x):f o'=o↔o'=o:=by
 constructor
 ·intro h
  cases o' with
  |tok h' k x=>
   obtain⟨h2,e⟩:=hf.t h' k x
   rw[e] at h
   exact absurd h.symm (ho _ _ _)
  |_=>rw[hf.o _ (fun _ _ _=>by simp)] at h;exact h
 ·rintro rfl
  exact hf.o _ ho
theorem TokRen.inv {f:Ow->Ow} (hf:TokRen f) {o:Ow} {h:Hd} {k x:Int} (e:f o=.tok h k x):∃h',o=.tok h' k x:=by
 cases o with
 |tok h' k' x'=>
  obtain⟨h2,e2⟩:=hf.t h' k' x'
  rw[e2] at e
  injection e with _ e3 e4
  exact⟨h',by rw[e3,e4]⟩
 |_=>rw[hf.o _ (fun _ _ _=>by simp)] at e;cases e
theorem Has.tokRen {who:Who} {o:Ow} {a n:Int} (h:Has who o a n) {f:Ow->Ow} (hf:TokRen f) (ho:∀h k x,o≠ .tok h k x):Has (Go.Proofs.YtcidjimefnhacaaGreatDoor.ren f who) o a n:=h.ren_ (hf.o _ ho)
theorem InvC.ren {P:Hp} {sp:V.SpM} {M:Nat->Nat->List Sp} {B:Nat->Nat->Int->Bool} {L:Nat->Nat->Int} {R:Nat->Int->Option Int} {who:Who} (h:InvC P sp M B L R who) {f:Ow->Ow} (hf:TokRen f):InvC P sp M B L R (Go.Proofs.YtcidjimefnhacaaGreatDoor.ren f who) where
 n:=h.n
 cen:=fun a k ha hk=>(h.cen a k ha hk).ren (hf.o _ (by simp))
 pgs:=fun a k ha hk b hb=>by
  rcases h.pgs a k ha hk b hb with e|⟨h',x,e⟩
  ·left;show f (who b)=_;rw[e];exact hf.o _ (by simp)
  ·right
   obtain⟨h2,e2⟩:=hf.t h' k x
   exact⟨h2,x,by show f (who b)=_;rw[e];exact e2⟩
 bud:=fun a x ha hx=>(h.bud a x ha hx).tokRen hf (by simp)
 spc:=fun b=>(hf.iff (by simp)).trans (h.spc b)
 lo:=h.lo
 own:=fun b hb=>h.own b (fun e=>hb ((hf.iff (by simp)).2 e))
 hugU:=h.hugU
 run:=fun a s p ha hs=>by
  obtain⟨h1,h2⟩:=h.run a s p ha hs
  exact⟨h1,h2.imp (fun h=>h.tokRen hf (by simp)) (fun ⟨t,h⟩=>⟨t,h.tokRen hf (by simp)⟩)⟩
 tin:=fun y h' k x e=>by
  obtain⟨h2,e2⟩:=hf.inv e
  exact h.tin y h2 k x e2
 dis:=h.dis
def xtok:List Bt->Int->Nat
 | [],_=>0
 |b::X,x=>b.2.count x+xtok X x
theorem xtok_append (X Y:List Bt) (x:Int):xtok (X++Y) x=xtok X x+xtok Y x:=by
 induction X with
 |nil=>simp[xtok]
 |cons b X ih=>simp[xtok,ih];omega
def ltok (lv:Int->Option Bk) (k a:Int):Nat:=match lv a with
 |some b=>if b.cls=k/\0<=k then 1 else 0
 |none=>0
def tkH (P:Hp) (S:HS):Hd->Int->Int->Nat
 | .liv,k,a=>ltok S.lv k a
 | .cac t,k,a=>if t<P.nt then ctok (S.C t) k a else 0
 | .han t,k,a=>if t<P.nt then htok (S.H t) k a else 0
 | .tra a,k,x=>if a<P.na/\0<=k/\k<P.T.length then xtok (S.X a k.toNat) x else 0
structure InvL (P:Hp) (R:Nat->Int->Option Int) (lv:Int->Option Bk) (who:Who):Prop where
 sml:∀a b,lv a=some b->0<=b.cls->b.cls<P.T.length/\b.size=szK P.T b.cls
 lrg:∀a b,lv a=some b->b.cls<0->b.cls= -1/\b.ar<P.na/\0<=b.ar/\∃A s p,A<P.na/\a=s*256/\R A s=some p/\b.size=p*256/\Has who (.big A s) a (p*256)
def PhOk (P:Hp) (S:HS) (who:Who) (t:Nat):Ph->Prop
 | .none=>S.H t=[]
 | .take k=>k<P.T.length/\S.H t=[]
 | .transfer k n=>k<P.T.length/\1<=n/\n<=32/\S.H t=[]
 | .central k n=>k<P.T.length/\1<=n/\n<=32/\S.H t=[]
 | .grow k n=>k<P.T.length/\1<=n/\n<=32/\S.H t=[]
 | .fill=>∃b,S.H t=[b]
 | .large n=>0<n/\n<=16/\S.H t=[]
 | .find a=>S.H t=[]/\S.lv a≠none
 | .put k a=>k<P.T.length/\∃v,S.H t=[⟨k,v,[a]⟩]
 | .back=>S.H t≠ []
 | .give s A=>S.H t=[]/\0<=A/\A<P.na/\I64 s/\∃A2 p,A2<P.na/\1<=p/\S.R A2 s=some p/\Has who (.giv t A2 s) (s*256) (p*256)
 | .drain=>S.H t=[]
structure Inv (P:Hp) (S:HS) (who:Who):Prop where
 c:InvC P S.sp S.M S.B S.L S.R who
 tk:∀h,Keeps P.T who h (tkH P S h)
 l:InvL P S.R S.lv who
 trb:∀a k,a<P.na->k<P.T.length->∀b∈S.X a k,0<b.2.length/\b.2.length<=256
 hok:∀t,t<P.nt->∀b∈S.H t,b.ok P.T.length
 phs:∀t,t<P.nt->PhOk P S who t (S.ph t)
 fnd:∀t u a,t<P.nt->u<P.nt->S.ph t=.find a->S.ph u=.find a->t=u
def HS.phs (S:HS) (t:Nat) (p:Ph):HS:={S with ph:=upd S.ph t p}
def Both (A B:World->List Nat->Prop):World->List Nat->Prop:=fun w fs=>∃f1 f2,A w f1/\B w f2/\fs=f1++f2
theorem Both.framed {A B:World->List Nat->Prop} (FA:Framed A) (FB:Framed B):Framed (Both A B):=by
 constructor
 ·rintro w w' fp l ⟨f1,f2,h1,h2,rfl⟩ ho hb
  exact⟨f1,f2,FA.only h1 ho (fun b hb'=>hb b (List.mem_append_left _ hb')),FB.only h2 ho (fun b hb'=>hb b (List.mem_append_right _ hb')),rfl⟩
 ·rintro w fp ⟨f1,f2,h1,h2,rfl⟩ b hb
  exact(List.mem_append.1 hb).elim (FA.lt h1 b) (FB.lt h2 b)
theorem Ctx.fresh2 {P:Hp} {Sc:HS} {w W W':World} {FP:List Nat} {Ls Ls':World->List Nat->Prop} {bx:List (Nat×TypeId×Array Value)} (F:Framed Ls) (h:Ctx P Sc w FP Ls bx W) (ho:Only [] W W') {fs':List Nat} (hL:Ls' W' fs') (hf:∀b∈fs',W.heap.size<=b) {b:Nat} {t:TypeId} {cs:Array Value} (hb:W.heap.size<=b) (hbf:b∉fs') (hB:Blk W' b t cs):Ctx P Sc w FP (Both Ls Ls') ((b,t,cs)::bx) W':=by
 obtain⟨h0,h1,⟨FPc,fs,h2,h3,h4,h5,h6⟩,h7⟩:=h
 refine⟨h0,h1.trans ho.of_nil,⟨FPc,fs++fs',h2.still ho,⟨fs,fs',F.still h3 ho,hL,rfl⟩,h4,fun c hc=>?_,fun x hx=>?_⟩,fun x hx=>?_⟩
 ·rcases List.mem_append.1 hc with h|h
  ·exact h5 c h
  ·exact⟨.inr (Nat.le_trans h1.size (hf c h)),fun hb2=>by have:=h2.lt c hb2;have:=hf c h;omega⟩
 ·rcases List.mem_cons.1 hx with rfl|hx
  ·exact⟨fun hc=>by have:=h2.lt _ hc;dsimp only at this;omega,fun hc=>(List.mem_append.1 hc).elim (fun hc=>by have:=F.lt h3 _ hc;dsimp only at this;omega) hbf⟩
  ·exact⟨(h6 x hx).1,fun hc=>(List.mem_append.1 hc).elim (h6 x hx).2 (fun hc=>by have:=(h7 x hx).lt;have:=hf _ hc;omega)⟩
 ·rcases List.mem_cons.1 hx with rfl|hx
  ·exact hB
  ·exact(h7 x hx).only ho (by simp)
structure LP (na:Nat) (W:World) (k:Int) (v:Value) (o:List Int) (i:Nat) (pv:Nat->Value) (pl:Nat->List Int) (wr:World):Prop where
 ho:Only [] W wr
 box:Blk wr W.heap.size 205 #[.int .i64 k,v]
 row:V.Row wr (W.heap.size+1) na pv
 own:∀j,j<na->wr.ownsRow (W.heap.size+2) 3 1 (pv j) (pl j).length ((pl j).map (Value.int .i64))
 ap:∀j j',j<na->j'<na->j≠j'->∀g,(pv j).ownBlock=some g->(pv j').ownBlock≠some g
 cnt:∀x,sumC pl na x=(o.take i).count x
 ln:∀j,j<na->(pl j).length<=i
theorem LP.step {na:Nat} {W wr w2 w3:World} {k:Int} {v:Value} {o:List Int} {i a:Nat} {pv:Nat->Value} {pl:Nat->List Int} (h:LP na W k v o i pv pl wr) (ha:a<na) {x:Int} (hx:o[i]? =some x) (ho:Only [] wr w2) {v':Value} (hown:w3.ownsRow (W.heap.size+2) 3 1 v' ((pl a).length+1) ((pl a).map (Value.int .i64)++[.int .i64 x])) (hg:w2.grownBy w3 (pv a).ownBlock) (hv:v'.ownBlock=(pv a).ownBlock\/v'.ownBlock=some w2.heap.size):
 LP na W k v o (i+1) (upd pv a v') (upd pl a (pl a++[x])) (w3.setCell ⟨W.heap.size+1,a,none⟩ v'):=by
 obtain⟨h1,h2,h3,h4,h5,h6,h7⟩:=h
 have hs1:=h1.size
 have hs2:=ho.size
 have ho3:Only (pv a).ownBlock.toList wr w3:=ho.of_nil.grown hg (fun b hb=>.inl (by simp[hb]))
 have oS:Only [W.heap.size+1] w3 (w3.setCell ⟨W.heap.size+1,a,none⟩ v'):=(Only.refl [W.heap.size+1] w3).setCell (p:=⟨W.heap.size+1,a,none⟩) (.inl (by simp)) _
 have nb:∀b,b<W.heap.size+2->b∉(pv a).ownBlock.toList:=fun b hb hm=>by have:=own_base (h4 a ha) b (Option.mem_toList.1 hm);omega
 have hgl:=h3.lt
 refine⟨?_,(h2.only ho3 (nb _ (by omega))).only oS (by simp),((h3.only ho3 (nb _ (by omega))).set_ a v').congr (fun j _=>?_),fun j hj=>?_,fun j j' hj hj' hne g hg1 hg2=>?_,fun y=>?_,fun j hj=>?_⟩
 ·refine(h1.then_ ho3 (fun b hb=>.inr ?_)).then_ oS (fun b hb=>.inr (by simp at hb;omega))
  have:=own_base (h4 a ha) b (Option.mem_toList.1 hb);omega
 ·by_cases e:j=a
  ·subst e;rw[if_pos rfl,upd_at]
  ·rw[if_neg e,upd_ne e]
 ·by_cases e:j=a
  ·subst e
   rw[upd_at,upd_at]
   have:=own_only hown oS (fun g hg hb=>by have:=own_base hown g hg;simp at hb;omega)
   simpa using this
  ·rw[upd_ne e,upd_ne e]
   exact own_only (own_only (h4 j hj) ho3 (fun g hg hb=>h5 j a hj ha e g hg (Option.mem_toList.1 hb))) oS (fun g hg hb=>by have:=own_base (h4 j hj) g hg;simp at hb;omega)
 ·by_cases e:j=a
  ·subst e
   rw[upd_at] at hg1
   rw[upd_ne hne.symm] at hg2
   rcases hv with h8|h8
   ·exact h5 j j' hj hj' hne g (h8▸hg1) hg2
   ·have e2:w2.heap.size=g:=by rw[h8] at hg1;injection hg1
    have:=own_lt' (h4 j' hj') g hg2
    omega
  ·rw[upd_ne e] at hg1
   by_cases e':j'=a
   ·subst e'
    rw[upd_at] at hg2
    rcases hv with h8|h8
    ·exact h5 j j' hj hj' hne g hg1 (h8▸hg2)
    ·have e2:w2.heap.size=g:=by rw[h8] at hg2;injection hg2
     have:=own_lt' (h4 j hj) g hg1
     omega
   ·rw[upd_ne e'] at hg2
    exact h5 j j' hj hj' hne g hg1 hg2
 ·have hi:i<o.length:=by
   rcases Nat.lt_or_ge i o.length with h|h
   ·exact h
   ·rw[List.getElem?_eq_none h] at hx;cases hx
  rw[sumC_upd,h6,List.take_succ_eq_append_getElem hi,List.count_append]
  rw[List.getElem?_eq_getElem hi] at hx
  injection hx with hx
  rw[hx]
  by_cases e:x=y
  ·subst e
   rw[if_pos ⟨ha,rfl⟩,List.count_singleton_self]
  ·rw[if_neg (fun h=>e h.2)]
   have:List.count y [x]=0:=by simp[List.count_cons,e]
   omega
 ·by_cases e:j=a
  ·subst e;rw[upd_at,List.length_append];have:=h7 j hj;simp;omega
  ·rw[upd_ne e];have:=h7 j hj;omega
theorem LP.part {na:Nat} {W wr:World} {k:Int} {v:Value} {o:List Int} {i:Nat} {pv:Nat->Value} {pl:Nat->List Int} (h:LP na W k v o i pv pl wr):∃fs,PSt na (W.heap.size+1) pv pl wr fs/\(∀b∈fs,W.heap.size<=b)/\W.heap.size∉fs:=by
 refine⟨(W.heap.size+1)::(List.range na).flatMap (fun j=>(pv j).ownBlock.toList),⟨⟨h.row,by simp,fun j hj=>(OSl.of_own (h.own j hj) rfl).mono (fun b hb=>?_)⟩,fun b hb=>?_⟩,fun b hb=>?_,fun hb=>?_⟩
 ·exact mcm _ (List.mem_flatMap.2 ⟨j,List.mem_range.2 hj,hb⟩)
 ·rcases List.mem_cons.1 hb with rfl|hb
  ·exact h.row.lt
  ·obtain⟨j,hj,hb⟩:=List.mem_flatMap.1 hb
   exact own_lt' (h.own j (List.mem_range.1 hj)) b (Option.mem_toList.1 hb)
 ·rcases List.mem_cons.1 hb with rfl|hb
  ·omega
  ·obtain⟨j,hj,hb⟩:=List.mem_flatMap.1 hb
   have:=own_base (h.own j (List.mem_range.1 hj)) b (Option.mem_toList.1 hb);omega
 ·rcases List.mem_cons.1 hb with hb|hb
  ·omega
  ·obtain⟨j,hj,hb⟩:=List.mem_flatMap.1 hb
   have:=own_base (h.own j (List.mem_range.1 hj)) _ (Option.mem_toList.1 hb);omega
def BackD (P:Hp) (S:HS) (own k:Nat) (o:List Int) (S':HS):Prop:=(∃b',S'={S with X:=upd2 S.X own k (S.X own k++[(b',o)])})\/∃pl B' L',(∀x,sumC pl P.na x=o.count x)/\BkR S k pl P.na B' L'/\S'=S.bks k pl P.na B' L'
set_option maxHeartbeats 4000000 in
theorem atoT_at {P:Hp} {S:HS} {w:World} {FP:List Nat} (h:HSys P S w FP) {a k:Nat} (ha:a<P.na) (hk:k<P.T.length) {v:Value} {b:Nat} {l:List Int} (hv:ISl w v b l) (hi:∀x∈l,I64 x) (hl:l.length<=256):
 Calls Tryz.prog 118 #[.pointer (some ⟨P.ar a,0,none⟩),.int .i64 k,v] w fun e w'=>
 (∃n,e=.returned (.tuple #[.bool false,.int .i64 n])/\Only [] w w')\/(e=.returned (.tuple #[.bool true,.int .i64 0])/\∃b',Turns (HSys P {S with X:=upd2 S.X a k (S.X a k++[(b',l)])}) w FP w'):=by
 have CK:=Lib.hid (acheck_at h ha hk)
 have z0:=(h.acells ha).c0
 obtain⟨_,_,s2,sok,htc,_,_⟩:=h.atab ha hk
 have hn:=h.isT.2.1
 have HH:=Lib.hid h
 have HV:=Lib.hid hv
 have HI:=Lib.hid hi
 have HK:=Lib.hid (And.intro ha hk)
 obtain⟨off,cap,rfl,hcap,_⟩:=hv.ex
 obtain⟨m,hm⟩:∃m,m=l.length:=⟨_,rfl⟩
 have HM:=Lib.hid hm
 rw[<-hm] at hcap hl ⊢
 have b9:(Z.cAt P.T k).b<=32:=sok.2.2.2.2.2.2.2
 clear h ha hv hi sok
 by_cases hb:(m:Int)=(Z.cAt P.T k).b
 ·have hbq:((m:Int)==(Z.cAt P.T k).b)=true:=beq_iff_eq.2 hb
  have hbn:((m:Int) != (Z.cAt P.T k).b)=false:=by rw[bne,hbq];rfl
  have HB:=Lib.hid hb
  clear hb hm hbq
  generalize hbt:(Z.cAt P.T k).b=bt at *
  generalize hT:P.T.length=n at *
  have HT:=Lib.hid hT
  have HBT:=Lib.hid hbt
  clear hT hbt
  go_enter Tryz.func118,Tryz.ntmps118
  go_wp2_with (first|(go_at_call 104;with_reducible refine Still.use CK.out ?_))
  go_loopw[32] (fun t wr=>∃i:Nat,i<=m/\t=.int .i64 i/\Only [] w wr) (fun t _=>m-(intOf t).toNat)
  case atStart=>exact⟨0,Nat.zero_le _,rfl,Only.refl _ _⟩
  case round=>
   obtain⟨i,hi,rfl,ho⟩:=hrel
   have HO:=Lib.hid ho
   have h1:=HH.out.still ho
   obtain⟨ha,hk⟩:=HK.out
   by_cases hlt:i<m
   ·have d1:decide ((i:Int)<m)=true:=decide_eq_true (by omega)
    have y5:=(h1.acells ha).c5
    have q5:=(h1.arow ha (by rw[HT.out];exact hk)).1
    obtain⟨_,_,_,_,_,hcc,_⟩:=h1.atab ha (by rw[HT.out];exact hk)
    obtain⟨fc,hfc,_,_⟩:=h1.turn (.cen a k)
    have hM:ListSt wr (P.ce a k) fc (P.cl k) (S.M a k):=hfc.1 ⟨ha,by rw[HT.out];exact hk⟩
    have hI64:I64 (l.getD i 0):=HI.out _ (by rw[List.getD_eq_getElem?_getD,List.getElem?_eq_getElem (by rw[<-HM.out];exact hlt)];exact List.getElem_mem _)
    have CI:=Lib.hid (lIsTaken_st hM (l.getD i 0) hI64)
    have h8:=isTk_cases hM.goodL (l.getD i 0)
    have c1:wr.cell? ⟨b,off+i,none⟩=some (.int .i64 (l.getD i 0)):=by
     obtain⟨off',cap',e,_,hc⟩:=(HV.out.still ho).ex
     injection e with e1 _ _
     injection e1 with e1
     injection e1 with _ e1 _
     subst e1
     exact hc i (by rw[<-HM.out];exact hlt)
    clear h1 hfc hM hI64 ho
    rw[HT.out] at y5 hcc
    generalize l.getD i 0=x at *
    generalize hq:isTk (S.M a k) x=q at *
    obtain⟨qb,qe⟩:=q
    dsimp only at h8
    have HQ:=Lib.hid hq
    clear hq
    rcases h8 with rfl|rfl
    ·cases qb
     ·go_wp2_with (first|(go_at_call 145;with_reducible refine Grew.use CI.out (fun w2 ho2=>?_)))
      go_ret2
      exact .inl ⟨8,rfl,HO.out.trans ho2⟩
     ·go_wp2_with (first|(go_at_call 145;with_reducible refine Grew.use CI.out (fun w2 ho2=>?_)))
      go_roundw
      case rel=>exact⟨i+1,by omega,by go_num,HO.out.trans ho2⟩
      case measure=>simp[intOf];omega
    ·go_wp2_with (first|(go_at_call 145;with_reducible refine Grew.use CI.out (fun w2 ho2=>?_)))
     go_ret2
     exact .inl ⟨8,rfl,HO.out.trans ho2⟩
   ·have e:i=m:=by omega
    subst e
    have d1:decide ((i:Int)<i)=false:=decide_eq_false (by omega)
    have hk':k<P.T.length:=by rw[HT.out];exact hk
    have y6:=(h1.acells ha).c6
    have q6:=(h1.arow ha hk').2
    obtain⟨_,_,_,_,_,_,hcx⟩:=h1.atab ha hk'
    obtain⟨fx,hfx,_,hgx⟩:=h1.turns (.tra a k)
    have hv1:=HV.out.still ho
    have CT:=Lib.hid (TInsert_at (hfx.1 ⟨ha,hk'⟩) _ b l hv1 (by rw[<-HM.out,HBT.out];exact HB.out))
    have HG:=Lib.hid hgx
    clear h1 hfx hgx ho hv1
    rw[HT.out] at y6 hcx
    go_wp2_with fail
    rw[<-HM.out] at CT
    refine CT.out.mono ?_
    rintro r w2 (⟨rfl,ho2⟩|⟨rfl,b',hT2⟩)
    ·go_wp2_with fail
     go_ret2
     exact .inl ⟨0,rfl,HO.out.trans ho2⟩
    ·have HT2:=Lib.hid hT2
     clear hT2 CT
     go_wp2_with fail
     go_ret2
     refine .inr ⟨rfl,b',Turns.first HO.out (HG.out _ _ (St_X P S a k _) (HT2.out.mono (fun f hf=>⟨fun _=>?_,(TrSt.framed _ _ _ _).lt hf⟩)))⟩
     show TrSt _ _ _ (upd2 S.X a k _ a k) _ _
     rw[upd2_at];exact hf
 ·have hbq:((m:Int)==(Z.cAt P.T k).b)=false:=beq_eq_false_iff_ne.2 hb
  clear hb
  generalize (Z.cAt P.T k).b=bt at *
  generalize P.T.length=n at *
  go_enter Tryz.func118,Tryz.ntmps118
  go_wp2_with (first|(go_at_call 104;with_reducible refine Still.use CK.out ?_))
  go_ret2
  exact .inl ⟨1,rfl,Only.refl _ _⟩
end Go.Proofs.YtcidjimefnhacaaGreatDoor
