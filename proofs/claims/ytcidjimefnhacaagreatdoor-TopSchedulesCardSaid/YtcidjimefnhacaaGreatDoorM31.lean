/- TopSchedules, a part of the proof: GF, GG, GH, Pc, Pd. -/
import Derived.Test.YtcidjimefnhacaaGreatDoorM28
import Derived.Test.YtcidjimefnhacaaGreatDoorM29
import Derived.Test.YtcidjimefnhacaaGreatDoorM30
set_option linter.unusedVariables false
set_option linter.unusedSimpArgs false
namespace Go.Proofs.YtcidjimefnhacaaGreatDoor
open Go.RowKit
def FoundS (S:HS) (t:Nat) (addr:Int) (b:Bk) (p:Ph) (S':HS):Prop:=
 (b.cls<0/\p=.give (addr/256) b.ar/\S'={S with lv:=lvDel S.lv addr})\/(0<=b.cls/\p=.put b.cls.toNat addr/\∃v v',S'=({S with lv:=lvDel S.lv addr}:HS).hnd t v' (S.H t++[⟨b.cls.toNat,v,[addr]⟩]))
set_option maxRecDepth 100000 in
set_option maxHeartbeats 8000000 in
theorem hsFind_at {P:Hp} {S:HS} {w:World} {FP:List Nat} (h:HSys P S w FP) {t:Nat} {a:Int} (ht:t<P.nt) (h0:0<=a/\a<65536) {b:Bk} (hb:S.lv a=some b) (hcl:0<=b.cls->b.cls<P.T.length) (hl:(S.H t).length<=50):
 Calls Tryz.prog 77 #[.pointer (some ⟨P.h,0,none⟩),.int .i64 t,(Ph.find a).val] w fun e w'=>∃p S',FoundS S t a b p S'/\Turns (HSys P S') w FP w'/\e=.returned (.tuple #[p.val,.agg #[.int .i64 0,.int .i64 0]]):=by
 have c0:=(Ctx.start h).push NoL.framed #[.int .i64 0,.int .i64 0] 66
 have HC0:=Lib.hid c0
 have HT:=Lib.hid ht
 obtain⟨FP0,hs0⟩:=c0.sys_
 have z8:=hs0.hcells.c8
 obtain⟨n1,n2,n3,n4,n5,n6,n7,n8,n9⟩:=h.nums
 have HB3:=Lib.hid h.big
 have CT:=Lib.hid (fun (W:World) (bx:List (Nat×TypeId×Array Value)) (hc:Ctx P S w FP NoL bx W)=>hc.call (f:=91) (args:=#[.pointer (some ⟨P.h,0,none⟩),.int .i64 t,.int .i64 a]) (α:=Ph×HS) (R:=fun x e=>e=.returned (.tuple #[x.1.val,.agg #[.int .i64 0,.int .i64 0]])/\FoundS S t a b x.1 x.2) (S':=fun x=>x.2) NoL.framed (fun FPc hs=>(hfind_at hs ht h0 hb hcl hl).mono (fun e w' h=>h.elim (fun ⟨q1,q2,q3⟩=>⟨(_,_),⟨q2,.inl ⟨q1,rfl,rfl⟩⟩,q3⟩) (fun ⟨q1,q2,v,v',q3⟩=>⟨(_,_),⟨q2,.inr ⟨q1,rfl,v,v',rfl⟩⟩,q3⟩))))
 have CW:=Lib.hid (fun (W:World) (hc:Ctx P S w FP NoL [(w.heap.size,66,#[.int .i64 0,.int .i64 0])] W)=>hc.sys_.elim (fun FPd hs=>hown_at hs ht))
 have hown:t%P.na<P.na:=Nat.mod_lt _ (by omega)
 clear h c0 hs0
 clear hcl hb
 generalize hnt:P.nt=nt at *
 have HNT:=Lib.hid hnt
 generalize hna:P.na=na at *
 have HNA:=Lib.hid hna
 generalize hq:t%na=q at *
 clear hnt hna hq
 have hta0:=fun W=>ta_no (T:=191) (T':=211) Tryz.underlying191 rfl (by decide) z_take (.agg #[.int .i64 a]) W
 have hta1:=fun W=>ta_no (T:=194) (T':=211) Tryz.underlying194 rfl (by decide) z_transfer (.agg #[.int .i64 a]) W
 have hta2:=fun W=>ta_no (T:=200) (T':=211) Tryz.underlying200 rfl (by decide) z_central (.agg #[.int .i64 a]) W
 have hta3:=fun W=>ta_no (T:=202) (T':=211) Tryz.underlying202 rfl (by decide) z_grow (.agg #[.int .i64 a]) W
 have hta4:=fun W=>ta_no (T:=199) (T':=211) Tryz.underlying199 rfl (by decide) z_fill (.agg #[.int .i64 a]) W
 have hta5:=fun W=>ta_no (T:=208) (T':=211) Tryz.underlying208 rfl (by decide) z_large (.agg #[.int .i64 a]) W
 have hta:=fun W=>ta_yes Tryz.underlying211 rfl (.agg #[.int .i64 a]) W
 unfold Ph.val
 go_enter Tryz.func77,Tryz.ntmps77
 go_wp2_with fail
 have hbd:=HC0.out.still NoL.framed ((Only.refl [] _).drew)
 go_region_held3 (fun U=>U.cell? ⟨P.h,7,none⟩=some (.slice (some ⟨P.gA,0,none⟩) na P.cA)/\U.cell? ⟨P.gA,q,none⟩=some (.pointer (some ⟨P.ar q,0,none⟩)))
  (exact stCells HNA.out hown (by assumption))
  (first
   |(go_at_call 81;with_reducible refine Still.use (CW.out _ hbd) ?_))
 generalize (w.alloc (.cells #[.int .i64 0,.int .i64 0] 66)).drew=W1 at *
 clear CW HC0 z8
 have HB1:Hid (¬W1.heap.size=w.heap.size):=Nat.ne_of_gt (hbd.box (x:=(w.heap.size,66,#[.int .i64 0,.int .i64 0])) (by simp)).lt
 replace hbd:=hbd.push NoL.framed #[.int .i64 a] 211
 generalize hb1:W1.heap.size=b1 at *
 obtain⟨x0,_⟩:=bxCell hbd (mcs ..) 0 rfl
 have HBD:=Lib.hid hbd
 clear hbd
 go_wp2_with fail
 refine(CT.out _ _ HBD.out).mono ?_
 rintro r wN ⟨⟨p,S'⟩,⟨rfl,hfs⟩,hbd⟩
 replace hbd:Ctx P S' w FP NoL _ wN:=hbd
 obtain⟨r0,f0⟩:=bxCell hbd (mcm _ (mcs ..)) 0 rfl
 obtain⟨r1,f1⟩:=bxCell hbd (mcm _ (mcs ..)) 1 rfl
 have HBR:=Lib.hid (hbd.res (b:=w.heap.size) (mcm _ (mcs ..)) (Nat.le_refl _) HB3.out [] (fun x hx=>by cases hx) 0 0)
 have HFS:=Lib.hid hfs
 clear x0 HBD CT hbd
 rcases hfs with ⟨_,rfl,_⟩|⟨_,rfl,_⟩
 ·unfold Ph.val
  go_wp2_with fail
  refine bodyPost_ret (results_pr rfl rfl (bxCell HBR.out (mcs ..) 0 rfl).1 (bxCell HBR.out (mcs ..) 1 rfl).1) rfl ?_
  exact⟨_,S',HFS.out,HBR.out.turns,rfl⟩
 ·generalize b.cls.toNat=kk at *
  unfold Ph.val
  go_wp2_with fail
  refine bodyPost_ret (results_pr rfl rfl (bxCell HBR.out (mcs ..) 0 rfl).1 (bxCell HBR.out (mcs ..) 1 rfl).1) rfl ?_
  exact⟨_,S',HFS.out,HBR.out.turns,rfl⟩
set_option maxRecDepth 100000 in
set_option maxHeartbeats 8000000 in
theorem hsGive_at {P:Hp} {S:HS} {w:World} {FP:List Nat} (h:HSys P S w FP) {t g:Nat} {s:Int} (ht:t<P.nt) (hg:g<P.na) (hsI:I64 s) (hok:∀p,S.R g s=some p->0<=s/\1<=p/\s+p<=256/\∀x,s<=x->x<s+p->¬bF (S.B g) x):
 Calls Tryz.prog 77 #[.pointer (some ⟨P.h,0,none⟩),.int .i64 t,(Ph.give s g).val] w fun e w'=>e=.returned (.tuple #[.nilIface,.agg #[.int .i64 0,.int .i64 0]])/\
  ((S.R g s=none/\Turns (HSys P S) w FP w')\/(∃p B' L',S.R g s=some p/\Turns (HSys P ({S with R:=upd S.R g (fun j=>if j=s then none else S.R g j)}.bk g B' L')) w FP w'/\(∀x,bF B' x↔bF (S.B g) x\/(s<=x/\x<s+p))/\SameL (S.L g) L')):=by
 have HG:=Lib.hid hg
 have c0:=(Ctx.start h).push NoL.framed #[.int .i64 0,.int .i64 0] 66
 have HC0:=Lib.hid c0
 have HT:=Lib.hid ht
 obtain⟨FP0,hs0⟩:=c0.sys_
 have z8:=hs0.hcells.c8
 obtain⟨n1,n2,n3,n4,n5,n6,n7,n8,n9⟩:=h.nums
 have HB3:=Lib.hid h.big
 have CT:=Lib.hid (fun (W:World) (bx:List (Nat×TypeId×Array Value)) (hc:Ctx P S w FP NoL bx W)=>hc.call (f:=98) (args:=#[.pointer (some ⟨P.ar g,0,none⟩),.int .i64 s]) (α:=HS×Int) (R:=fun x e=>e=.returned (.int .i64 x.2)/\((S.R g s=none/\x.1=S)\/(∃p B' L',S.R g s=some p/\x.1=({S with R:=upd S.R g (fun j=>if j=s then none else S.R g j)}:HS).bk g B' L'/\(∀x,bF B' x↔bF (S.B g) x\/(s<=x/\x<s+p))/\SameL (S.L g) L'))) (S':=fun x=>x.1) NoL.framed (fun FPc hs=>(agiveP_at hs hg s hsI hok).mono (fun e w' h=>h.elim (fun ⟨q1,q2,q3⟩=>⟨(S,8),⟨q2,.inl ⟨q1,rfl⟩⟩,q3⟩) (fun ⟨p,B',L',q1,q2,q3,q4,q5⟩=>⟨(_,0),⟨q2,.inr ⟨p,B',L',q1,rfl,q4,q5⟩⟩,q3⟩))))
 have CW:=Lib.hid (fun (W:World) (hc:Ctx P S w FP NoL [(w.heap.size,66,#[.int .i64 0,.int .i64 0])] W)=>hc.sys_.elim (fun FPd hs=>hown_at hs ht))
 have hown:t%P.na<P.na:=Nat.mod_lt _ (by omega)
 clear h c0 hs0
 clear hok
 generalize hnt:P.nt=nt at *
 have HNT:=Lib.hid hnt
 generalize hna:P.na=na at *
 have HNA:=Lib.hid hna
 generalize hq:t%na=q at *
 clear hnt hna hq
 have hta0:=fun W=>ta_no (T:=191) (T':=221) Tryz.underlying191 rfl (by decide) z_take (.agg #[.int .i64 s,.int .i64 (g:Int)]) W
 have hta1:=fun W=>ta_no (T:=194) (T':=221) Tryz.underlying194 rfl (by decide) z_transfer (.agg #[.int .i64 s,.int .i64 (g:Int)]) W
 have hta2:=fun W=>ta_no (T:=200) (T':=221) Tryz.underlying200 rfl (by decide) z_central (.agg #[.int .i64 s,.int .i64 (g:Int)]) W
 have hta3:=fun W=>ta_no (T:=202) (T':=221) Tryz.underlying202 rfl (by decide) z_grow (.agg #[.int .i64 s,.int .i64 (g:Int)]) W
 have hta4:=fun W=>ta_no (T:=199) (T':=221) Tryz.underlying199 rfl (by decide) z_fill (.agg #[.int .i64 s,.int .i64 (g:Int)]) W
 have hta5:=fun W=>ta_no (T:=208) (T':=221) Tryz.underlying208 rfl (by decide) z_large (.agg #[.int .i64 s,.int .i64 (g:Int)]) W
 have hta6:=fun W=>ta_no (T:=211) (T':=221) Tryz.underlying211 rfl (by decide) z_find (.agg #[.int .i64 s,.int .i64 (g:Int)]) W
 have hta7:=fun W=>ta_no (T:=214) (T':=221) Tryz.underlying214 rfl (by decide) z_put (.agg #[.int .i64 s,.int .i64 (g:Int)]) W
 have hta8:=fun W=>ta_no (T:=217) (T':=221) Tryz.underlying217 rfl (by decide) z_back (.agg #[.int .i64 s,.int .i64 (g:Int)]) W
 have hta:=fun W=>ta_yes Tryz.underlying221 rfl (.agg #[.int .i64 s,.int .i64 (g:Int)]) W
 unfold Ph.val
 go_enter Tryz.func77,Tryz.ntmps77
 go_wp2_with fail
 have hbd:=HC0.out.still NoL.framed ((Only.refl [] _).drew)
 go_region_held3 (fun U=>U.cell? ⟨P.h,7,none⟩=some (.slice (some ⟨P.gA,0,none⟩) na P.cA)/\U.cell? ⟨P.gA,q,none⟩=some (.pointer (some ⟨P.ar q,0,none⟩)))
  (exact stCells HNA.out hown (by assumption))
  (first
   |(go_at_call 81;with_reducible refine Still.use (CW.out _ hbd) ?_))
 generalize (w.alloc (.cells #[.int .i64 0,.int .i64 0] 66)).drew=W1 at *
 clear CW HC0 z8
 have HB1:Hid (¬W1.heap.size=w.heap.size):=Nat.ne_of_gt (hbd.box (x:=(w.heap.size,66,#[.int .i64 0,.int .i64 0])) (by simp)).lt
 replace hbd:=hbd.push NoL.framed #[.int .i64 s,.int .i64 (g:Int)] 221
 generalize hb1:W1.heap.size=b1 at *
 go_wp2_with fail
 generalize W1.alloc (.cells #[.int .i64 s,.int .i64 (g:Int)] 221)=W2 at *
 replace hbd:=hbd.still NoL.framed ((Only.refl [] W2).drew)
 go_region_held3 (fun U=>U.cell? ⟨P.h,7,none⟩=some (.slice (some ⟨P.gA,0,none⟩) na P.cA)/\U.cell? ⟨P.gA,g,none⟩=some (.pointer (some ⟨P.ar g,0,none⟩))/\U.cell? ⟨b1,0,none⟩=some (.int .i64 s)/\U.cell? ⟨b1,1,none⟩=some (.int .i64 (g:Int)))
  (exact⟨(stCells HNA.out HG.out hbd).1,(stCells HNA.out HG.out hbd).2,(bxCell hbd (mcs ..) 0 rfl).1,(bxCell hbd (mcs ..) 1 rfl).1⟩)
  (first
   |(go_at_call 98;with_reducible refine Calls.mono (CT.out _ _ hbd) ?_;rintro _ wN ⟨⟨S',er⟩,⟨rfl,hfs⟩,hbN⟩;clear hbd;have hbd:=hbN;clear hbN))
 replace hbd:Ctx P S' w FP NoL [(b1,221,#[.int .i64 s,.int .i64 (g:Int)]),(w.heap.size,66,#[.int .i64 0,.int .i64 0])] wN:=hbd
 obtain⟨r0,f0⟩:=bxCell hbd (mcm _ (mcs ..)) 0 rfl
 obtain⟨r1,f1⟩:=bxCell hbd (mcm _ (mcs ..)) 1 rfl
 have HBR:=Lib.hid (hbd.res (b:=w.heap.size) (mcm _ (mcs ..)) (Nat.le_refl _) HB3.out [] (fun x hx=>by cases hx) 0 0)
 have HFS:=Lib.hid hfs
 clear CT hbd hfs
 go_wp2_with fail
 refine bodyPost_ret (results_pr rfl rfl (bxCell HBR.out (mcs ..) 0 rfl).1 (bxCell HBR.out (mcs ..) 1 rfl).1) rfl ?_
 refine⟨rfl,?_⟩
 rcases HFS.out with ⟨q1,q2⟩|⟨p,B',L',q1,q2,q3,q4⟩
 ·exact .inl ⟨q1,by have:=HBR.out.turns;rwa[q2] at this⟩
 ·exact .inr ⟨p,B',L',q1,by have:=HBR.out.turns;rwa[q2] at this,q3,q4⟩
def LargeS (S:HS) (a n:Nat) (S':HS):Option Nat->Prop
 |none=>Grw S a S'
 |some o=>∃S1 B2 L2,Grw S a S1/\(o+n<=256/\(∀x:Int,o<=x->x<o+n->bF (S1.B a) x)/\∀x,bF B2 x↔bF (S1.B a) x/\¬((o:Int)<=x/\x<o+n))/\SameL (S1.L a) L2/\S'={S1.bk a B2 L2 with R:=upd S.R a (fun j=>if j=(o:Int) then some (n:Int) else S.R a j)}
set_option maxRecDepth 100000 in
set_option maxHeartbeats 8000000 in
theorem hsLarge_at {P:Hp} {S:HS} {w:World} {FP:List Nat} (h:HSys P S w FP) {t n:Nat} (ht:t<P.nt) (hn1:0<n/\n<=16) (hn:S.sp.n=256) (hfree:∀x,S.sp.st x=0->¬bF (S.B (t%P.na)) x) (hU:∀j,S.L (t%P.na) j=0↔S.L (t%P.na) (16*(j/16))=0)
 (hLB:∀S1,Grw S (t%P.na) S1->∀o:Nat,o<256->bF (S1.B (t%P.na)) o->∃a,a<P.na/\S1.L a o≠0):
 Calls Tryz.prog 77 #[.pointer (some ⟨P.h,0,none⟩),.int .i64 t,(Ph.large n).val] w fun e w'=>(∃S',LargeS S (t%P.na) n S' none/\e=.returned (.tuple #[.nilIface,.agg #[.int .i64 0,.int .i64 6]])/\Turns (HSys P S') w FP w')\/
  (∃(S':HS) (o ar:Nat),LargeS S (t%P.na) n S' (some o)/\ar<P.na/\e=.returned (.tuple #[.nilIface,.agg #[.int .i64 ((o:Int)*256),.int .i64 0]])/\Turns (HSys P {S' with lv:=lvPut S.lv ((o:Int)*256) ⟨(n:Int)*256, -1,ar⟩}) w FP w'):=by
 have HLE:Hid (∀S' o,LargeS S (t%P.na) n S' (some o)->(o:Nat)<256/\S'.lv=S.lv/\∃a,a<P.na/\Ownd S' a ((o:Int)*256/256)):=by
  rintro S' o ⟨S1,B2,L2,h1,⟨h2,h3,h4⟩,h5,rfl⟩
  have ho:o<256:=by omega
  obtain⟨a,ha,hL⟩:=hLB S1 h1 o ho (h3 o (Int.le_refl _) (by omega))
  refine⟨ho,h1.m.2.2.2.2.2.2.2,a,ha,?_⟩
  rw[Int.mul_ediv_cancel _ (by decide)]
  refine⟨by omega,by omega,?_⟩
  rw[Int.toNat_natCast]
  show upd S1.L (t%P.na) L2 a o≠0
  by_cases e:a=t%P.na
  ·rw[e,upd_at]
   rw[e] at hL
   exact fun h=>hL ((h5 o).1 h)
  ·rw[upd_ne e];exact hL
 have c0:=(Ctx.start h).push NoL.framed #[.int .i64 0,.int .i64 0] 66
 have HC0:=Lib.hid c0
 have HT:=Lib.hid ht
 obtain⟨FP0,hs0⟩:=c0.sys_
 have z8:=hs0.hcells.c8
 obtain⟨n1,n2,n3,n4,n5,n6,n7,n8,n9⟩:=h.nums
 have HB3:=Lib.hid h.big
 have CT:=Lib.hid (fun (W:World) (bx:List (Nat×TypeId×Array Value)) (hc:Ctx P S w FP NoL bx W)=>hc.call (f:=90) (args:=#[.pointer (some ⟨P.ar (t%P.na),0,none⟩),.int .i64 n,.int .i64 1]) (α:=Nat×Int×HS×Option Nat) (R:=fun x e=>e=.returned (.tuple #[.int .i64 x.1,.int .i64 x.2.1])/\LargeS S (t%P.na) n x.2.2.1 x.2.2.2/\((x.2.1=6/\x.2.2.2=none)\/(x.2.1=0/\x.2.2.2=some x.1))) (S':=fun x=>x.2.2.1) NoL.framed (fun FPc hs=>(atakeP_at hs (Nat.mod_lt t (show 0<P.na by omega)) hn hfree hU n hn1.1 hn1.2).mono (fun e w' h=>h.elim (fun ⟨S1,q1,q2,q3⟩=>⟨(0,6,S1,none),⟨q2,q1,.inl ⟨rfl,rfl⟩⟩,q3⟩) (fun ⟨S1,o,B2,L2,q1,q2,q4,q5,q6⟩=>⟨(o,0,_,some o),⟨q2,⟨S1,B2,L2,q1,q4,q5,rfl⟩,.inr ⟨rfl,rfl⟩⟩,q6⟩))))
 have CB:=Lib.hid (fun (W:World) (bx:List (Nat×TypeId×Array Value)) (S':HS) (o:Nat) (hS:LargeS S (t%P.na) n S' (some o)) (hc:Ctx P S' w FP NoL bx W)=>hc.call (α:=Nat) (R:=fun ar e=>e=.returned (.tuple #[.nilIface,.agg #[.int .i64 ((o:Int)*256),.int .i64 0]])/\ar<P.na) (S':=fun ar=>{S' with lv:=lvPut S'.lv ((o:Int)*256) ⟨(n:Int)*256, -1,ar⟩}) NoL.framed (fun FPc hs=>(hborn_at hs ((o:Int)*256) ((n:Int)*256) (-1) (by have:=(HLE.out S' o hS).1;omega) (HLE.out S' o hS).2.2).mono (fun e w' ⟨ar,h1,h2,h3⟩=>⟨ar,⟨h1,h2⟩,h3⟩)))
 have CW:=Lib.hid (fun (W:World) (hc:Ctx P S w FP NoL [(w.heap.size,66,#[.int .i64 0,.int .i64 0])] W)=>hc.sys_.elim (fun FPd hs=>hown_at hs ht))
 have hown:t%P.na<P.na:=Nat.mod_lt _ (by omega)
 clear h c0 hs0
 clear hfree hU hn hLB
 generalize hnt:P.nt=nt at *
 have HNT:=Lib.hid hnt
 generalize hna:P.na=na at *
 have HNA:=Lib.hid hna
 generalize hq:t%na=q at *
 clear hnt hna hq
 have hta0:=fun W=>ta_no (T:=191) (T':=208) Tryz.underlying191 rfl (by decide) z_take (.agg #[.int .i64 n]) W
 have hta1:=fun W=>ta_no (T:=194) (T':=208) Tryz.underlying194 rfl (by decide) z_transfer (.agg #[.int .i64 n]) W
 have hta2:=fun W=>ta_no (T:=200) (T':=208) Tryz.underlying200 rfl (by decide) z_central (.agg #[.int .i64 n]) W
 have hta3:=fun W=>ta_no (T:=202) (T':=208) Tryz.underlying202 rfl (by decide) z_grow (.agg #[.int .i64 n]) W
 have hta4:=fun W=>ta_no (T:=199) (T':=208) Tryz.underlying199 rfl (by decide) z_fill (.agg #[.int .i64 n]) W
 have hta:=fun W=>ta_yes Tryz.underlying208 rfl (.agg #[.int .i64 n]) W
 unfold Ph.val
 go_enter Tryz.func77,Tryz.ntmps77
 go_wp2_with fail
 have hbd:=HC0.out.still NoL.framed ((Only.refl [] _).drew)
 go_region_held3 (fun U=>U.cell? ⟨P.h,7,none⟩=some (.slice (some ⟨P.gA,0,none⟩) na P.cA)/\U.cell? ⟨P.gA,q,none⟩=some (.pointer (some ⟨P.ar q,0,none⟩)))
  (exact stCells HNA.out hown (by assumption))
  (first
   |(go_at_call 81;with_reducible refine Still.use (CW.out _ hbd) ?_))
 generalize (w.alloc (.cells #[.int .i64 0,.int .i64 0] 66)).drew=W1 at *
 clear CW HC0 z8
 have HB1:Hid (¬W1.heap.size=w.heap.size):=Nat.ne_of_gt (hbd.box (x:=(w.heap.size,66,#[.int .i64 0,.int .i64 0])) (by simp)).lt
 replace hbd:=hbd.push NoL.framed #[.int .i64 n] 208
 generalize hb1:W1.heap.size=b1 at *
 obtain⟨x0,_⟩:=bxCell hbd (mcs ..) 0 rfl
 have HBD:=Lib.hid hbd
 clear hbd
 go_wp2_with fail
 refine(CT.out _ _ HBD.out).mono ?_
 rintro r wN ⟨⟨o,er,S',oo⟩,⟨hr,hls,hx⟩,hbd⟩
 dsimp only at hr hls hx hbd
 subst hr
 have HLS:=Lib.hid hls
 obtain⟨y0,_⟩:=bxCell hbd (mcs ..) 0 rfl
 clear x0 HBD CT hls
 rcases hx with ⟨rfl,rfl⟩|⟨rfl,rfl⟩
 ·obtain⟨r0,f0⟩:=bxCell hbd (mcm _ (mcs ..)) 0 rfl
  obtain⟨r1,f1⟩:=bxCell hbd (mcm _ (mcs ..)) 1 rfl
  have HBR:=Lib.hid (hbd.res (b:=w.heap.size) (mcm _ (mcs ..)) (Nat.le_refl _) HB3.out [] (fun x hx=>by cases hx) 0 6)
  clear hbd
  go_wp2_with fail
  refine bodyPost_ret (results_pr rfl rfl (bxCell HBR.out (mcs ..) 0 rfl).1 (bxCell HBR.out (mcs ..) 1 rfl).1) rfl ?_
  exact .inl ⟨S',HLS.out,rfl,HBR.out.turns⟩
 ·have HBD:=Lib.hid hbd
  have ho:=(HLE.out S' o HLS.out).1
  have w1:IntKind.i64.wrap ((o:Int)*256)=(o:Int)*256:=IntWalk.i64_in _ (by omega)
  have w2:IntKind.i64.wrap ((n:Int)*256)=(n:Int)*256:=IntWalk.i64_in _ (by omega)
  clear hbd
  go_wp2_with fail
  refine(CB.out _ _ S' o HLS.out HBD.out).mono ?_
  rintro r wM ⟨ar,⟨rfl,har⟩,hbd⟩
  have HAR:=Lib.hid har
  obtain⟨r0,f0⟩:=bxCell hbd (mcm _ (mcs ..)) 0 rfl
  obtain⟨r1,f1⟩:=bxCell hbd (mcm _ (mcs ..)) 1 rfl
  have HBR:=Lib.hid (hbd.res (b:=w.heap.size) (mcm _ (mcs ..)) (Nat.le_refl _) HB3.out [] (fun x hx=>by cases hx) ((o:Int)*256) 0)
  clear hbd har HBD CB y0
  go_wp2_with fail
  refine bodyPost_ret (results_pr rfl rfl (bxCell HBR.out (mcs ..) 0 rfl).1 (bxCell HBR.out (mcs ..) 1 rfl).1) rfl ?_
  refine .inr ⟨S',o,ar,HLS.out,HAR.out,rfl,?_⟩
  have:=HBR.out.turns
  rwa[(HLE.out S' o HLS.out).2.1] at this
inductive PStep (P:Hp) (S:HS) (t:Nat):Ph->HS->Ph->Int×Int->Prop
 |takeHit {k:Nat} {C':Int->Option CE} {a:Int} {ar:Nat}:(∀j y,ctok C' j y+one1 k a j y=ctok (S.C t) j y)->ar<P.na->PStep P S t (.take k) {S.cac t C' with lv:=lvPut S.lv a ⟨(Z.cAt P.T k).s,k,ar⟩} .none (a,0)
 |takeMiss {k:Nat} {C':Int->Option CE} {n:Nat}:(∀j y,ctok C' j y=ctok (S.C t) j y)->1<=n->n<=32->PStep P S t (.take k) (S.cac t C') (.transfer k n) (0,0)
 |moveHit {k:Nat} {n:Int} {b:Bt} {v v':Value}:(S.X (t%P.na) k).getLast?=some b->PStep P S t (.transfer k n) (({S with X:=upd2 S.X (t%P.na) k (S.X (t%P.na) k).dropLast}:HS).hnd t v' (S.H t++[⟨k,v,b.2⟩])) .fill (0,0)
 |moveMiss {k:Nat} {n:Int}:PStep P S t (.transfer k n) S (.central k n) (0,0)
 |centHit {k:Nat} {n:Int} {v v':Value}:0<(takesTo (S.M (t%P.na) k) n.toNat).1.length->PStep P S t (.central k n) (({S with M:=upd2 S.M (t%P.na) k (takesTo (S.M (t%P.na) k) n.toNat).2}:HS).hnd t v' (S.H t++[⟨k,v,(takesTo (S.M (t%P.na) k) n.toNat).1⟩])) .fill (0,0)
 |centMiss {k:Nat} {n:Int}:(takesTo (S.M (t%P.na) k) n.toNat).1.length=0->PStep P S t (.central k n) {S with M:=upd2 S.M (t%P.na) k (takesTo (S.M (t%P.na) k) n.toNat).2} (.grow k n) (0,0)
 |growNo {k:Nat} {n er:Int} {S':HS}:GrownS P S (t%P.na) k S' er->er≠0->PStep P S t (.grow k n) S' .none (0,er)
 |growYes {k:Nat} {n:Int} {S':HS}:GrownS P S (t%P.na) k S' 0->PStep P S t (.grow k n) S' (.central k n) (0,0)
 |fill {b:HB} {x:Int} {xs:List Int} {C':Int->Option CE} {ar:Nat}:S.H t=[b]->b.o=x::xs->(∀j y,ctok C' j y<=ctok (S.C t) j y+(if j=(b.k:Int) then xs.count y else 0))->ar<P.na->
  PStep P S t .fill {(S.hnd t (.slice none 0 0) []).cac t C' with lv:=lvPut S.lv x ⟨(Z.cAt P.T b.k).s,b.k,ar⟩} .none (x,0)
 |largeNo {n:Nat} {S':HS}:LargeS S (t%P.na) n S' none->PStep P S t (.large n) S' .none (0,6)
 |largeYes {n o ar:Nat} {S':HS}:LargeS S (t%P.na) n S' (some o)->ar<P.na->PStep P S t (.large n) {S' with lv:=lvPut S.lv ((o:Int)*256) ⟨(n:Int)*256, -1,ar⟩} .none ((o:Int)*256,0)
 |find {a:Int} {b:Bk} {p:Ph} {S':HS}:S.lv a=some b->FoundS S t a b p S'->PStep P S t (.find a) S' p (0,0)
 |put {k:Nat} {a:Int} {C':Int->Option CE} {v:Value} {L:List HB}:(∀j y,ctok C' j y+htok L j y<=ctok (S.C t) j y+one1 k a j y)->L.length<=41->(∀b∈L,b.ok P.T.length)->PStep P S t (.put k a) ((S.cac t C').hnd t v L) (if L=[] then .none else .back) (0,0)
 |back {b:HB} {L:List HB} {v:Value} {S':HS}:S.H t=b::L->BackD P (S.hnd t v L) (t%P.na) b.k b.o S'->PStep P S t .back S' (if L=[] then .none else .back) (0,0)
 |giveNo {s A:Int}:S.R A.toNat s=none->PStep P S t (.give s A) S .none (0,0)
 |giveYes {s A p:Int} {B':Nat->Int->Bool} {L':Nat->Int}:S.R A.toNat s=some p->(∀x,bF B' x↔bF (S.B A.toNat) x\/(s<=x/\x<s+p))->SameL (S.L A.toNat) L'->PStep P S t (.give s A) ({S with R:=upd S.R A.toNat (fun j=>if j=s then none else S.R A.toNat j)}.bk A.toNat B' L') .none (0,0)
 |drain {C':Int->Option CE} {v:Value} {L:List HB}:(∀k a,ctok C' k a+htok L k a=ctok (S.C t) k a)->L.length<=40->(∀b∈L,b.ok P.T.length)->PStep P S t .drain ((S.cac t C').hnd t v L) (if L=[] then .none else .back) (0,0)
theorem TokRen.comp {f g:Ow->Ow} (hf:TokRen f) (hg:TokRen g):TokRen (fun o=>f (g o)):=⟨fun o ho=>by show f (g o)=o;rw[hg.o o ho,hf.o o ho],fun h k x=>by
 obtain⟨h1,e1⟩:=hg.t h k x
 obtain⟨h2,e2⟩:=hf.t h1 k x
 exact⟨h2,by show f (g _)=_;rw[e1,e2]⟩⟩
theorem InvL.put {P:Hp} {R:Nat->Int->Option Int} {lv:Int->Option Bk} {who:Who} (h:InvL P R lv who) {a:Int} {k ar:Nat} (hk:k<P.T.length):InvL P R (lvPut lv a ⟨(Z.cAt P.T k).s,k,ar⟩) who:=by
 constructor
 ·intro x b hb hc
  unfold lvPut at hb
  split at hb
  ·injection hb with hb
   subst hb
   exact⟨by show(k:Int)<_;omega,rfl⟩
  ·exact h.sml x b hb hc
 ·intro x b hb hc
  unfold lvPut at hb
  split at hb
  ·injection hb with hb
   subst hb
   exact absurd hc (by show ¬((k:Int)<0);omega)
  ·exact h.lrg x b hb hc
theorem InvL.del {P:Hp} {R:Nat->Int->Option Int} {lv:Int->Option Bk} {who:Who} (h:InvL P R lv who) (a:Int):InvL P R (lvDel lv a) who:=by
 constructor
 ·intro x b hb hc
  unfold lvDel at hb
  split at hb
  ·cases hb
  ·exact h.sml x b hb hc
 ·intro x b hb hc
  unfold lvDel at hb
  split at hb
  ·cases hb
  ·exact h.lrg x b hb hc
theorem htok_one (k:Nat) (v:Value) (l:List Int) (j y:Int):htok [⟨k,v,l⟩] j y=if j=(k:Int) then l.count y else 0:=by
 simp only[htok,Nat.add_zero]
 by_cases e:j=(k:Int)
 ·rw[if_pos e,if_pos e.symm]
 ·rw[if_neg e,if_neg (fun h=>e h.symm)]
theorem lvPut_some {lv:Int->Option Bk} {a x:Int} {b:Bk} (h:lv x≠none):lvPut lv a b x≠none:=by
 unfold lvPut
 split
 ·simp
 ·exact h
theorem tk_e3 {P:Hp} {S S':HS} {h1 h2:Hd} (hC:∀u,Hd.cac u≠h1->Hd.cac u≠h2->S'.C u=S.C u) (hH:∀u,Hd.han u≠h1->Hd.han u≠h2->S'.H u=S.H u) (hX:∀a,Hd.tra a≠h1->Hd.tra a≠h2->∀k,S'.X a k=S.X a k) (hl:Hd.liv≠h1->Hd.liv≠h2->S'.lv=S.lv):∀h,h≠h1->h≠h2->∀k a,tkH P S' h k a<=tkH P S h k a:=by
 intro h n1 n2 k a
 cases h with
 |liv=>show ltok S'.lv k a<=ltok S.lv k a;rw[hl n1 n2];exact Nat.le_refl _
 |cac u=>show(if u<P.nt then ctok (S'.C u) k a else 0)<=if u<P.nt then ctok (S.C u) k a else 0;rw[hC u n1 n2];exact Nat.le_refl _
 |han u=>show(if u<P.nt then htok (S'.H u) k a else 0)<=if u<P.nt then htok (S.H u) k a else 0;rw[hH u n1 n2];exact Nat.le_refl _
 |tra b=>show(if b<P.na/\0<=k/\k<P.T.length then xtok (S'.X b k.toNat) a else 0)<=if b<P.na/\0<=k/\k<P.T.length then xtok (S.X b k.toNat) a else 0;rw[hX b n1 n2];exact Nat.le_refl _
theorem ne_cac {u t:Nat} (h:Hd.cac u≠Hd.cac t):u≠t:=fun e=>h (by rw[e])
theorem ne_han {u t:Nat} (h:Hd.han u≠Hd.han t):u≠t:=fun e=>h (by rw[e])
theorem ne_tra {u t:Nat} (h:Hd.tra u≠Hd.tra t):u≠t:=fun e=>h (by rw[e])
theorem tk_cac {P:Hp} {S:HS} {t:Nat} (ht:t<P.nt) (j y:Int):tkH P S (.cac t) j y=ctok (S.C t) j y:=if_pos ht
theorem tk_han {P:Hp} {S:HS} {t:Nat} (ht:t<P.nt) (j y:Int):tkH P S (.han t) j y=htok (S.H t) j y:=if_pos ht
theorem Inv.takeHit {P:Hp} (hT:Z.isTable P.T) {S:HS} {who:Who} (h:Inv P S who) {t k:Nat} (ht:t<P.nt) (hp:S.ph t=.take k) {C':Int->Option CE} {a:Int} {ar:Nat} (htk:∀j y,ctok C' j y+one1 k a j y=ctok (S.C t) j y):
 ∃who',Inv P (HS.phs {S.cac t C' with lv:=lvPut S.lv a ⟨(Z.cAt P.T k).s,k,ar⟩} t .none) who':=by
 obtain⟨hk,hH⟩:k<P.T.length/\S.H t=[]:=by have:=h.phs t ht;rw[hp] at this;exact this
 have ha:0<tkH P S (.cac t) k a:=by
  rw[tk_cac ht]
  have:=htk k a
  unfold one1 at this
  rw[if_pos ⟨rfl,rfl⟩] at this
  omega
 have hn:=h.notLive hT (by simp) ha
 refine⟨_,h.tokStep (TokRen.hand (.cac t) .liv (one1 k a)) (t:=t) (p':=.none) rfl ⟨rfl,rfl,rfl,rfl,rfl⟩ (Kp.hand hT h.tk (by simp) (one1 k a) (fun j y=>?_) (fun j y=>?_) (tk_e3 (fun u n1 _=>upd_ne (ne_cac n1)) (fun _ _ _=>rfl) (fun _ _ _ _=>rfl) (fun _ n2=>absurd rfl n2))) ((h.l.put hk).ren (TokRen.hand _ _ _)) h.trb h.hok hH (fun u _=>rfl) (fun u x _ _ _ hx=>lvPut_some hx) (by simp)⟩
 ·rw[tk_cac ht,tk_cac ht]
  show ctok (upd S.C t C' t) j y+_<=_
  rw[upd_at]
  exact Nat.le_of_eq (htk j y)
 ·show ltok (lvPut S.lv a _) j y<=ltok S.lv j y+one1 k a j y
  rw[ltok_put hn]
  unfold one1
  by_cases e:y=a/\(k:Int)=j/\0<=j
  ·rw[if_pos e,if_pos ⟨e.2.1.symm,e.1⟩];exact Nat.le_refl _
  ·rw[if_neg e];omega
theorem Inv.takeMiss {P:Hp} {S:HS} {who:Who} (h:Inv P S who) {t k:Nat} (ht:t<P.nt) (hp:S.ph t=.take k) {C':Int->Option CE} {n:Nat} (htk:∀j y,ctok C' j y=ctok (S.C t) j y) (h1:1<=n) (h2:n<=32):
 Inv P (HS.phs (S.cac t C') t (.transfer k n)) who:=by
 obtain⟨hk,hH⟩:k<P.T.length/\S.H t=[]:=by have:=h.phs t ht;rw[hp] at this;exact this
 obtain⟨q1,q2⟩:=h.others (S':=HS.phs (S.cac t C') t (.transfer k n)) (who':=who) (t:=t) (p':=.transfer k n) rfl ⟨hk,by omega,by omega,hH⟩ (fun u _=>rfl) (fun u x _ _ _ hx=>hx) (fun u A s p _ _ _ h1 h2=>⟨h1,h2⟩) (by simp)
 refine⟨h.c,fun hd=>(h.tk hd).less (fun j y=>?_),h.l,h.trb,h.hok,q1,q2⟩
 by_cases e:hd=.cac t
 ·rw[e,tk_cac ht,tk_cac ht]
  show ctok (upd S.C t C' t) j y<=_
  rw[upd_at,htk]
  exact Nat.le_refl _
 ·exact tk_e3 (S:=S) (S':=HS.phs (S.cac t C') t (.transfer k n)) (h1:=.cac t) (h2:=.cac t) (fun u n1 _=>upd_ne (ne_cac n1)) (fun _ _ _=>rfl) (fun _ _ _ _=>rfl) (fun _ _=>rfl) hd e e j y
theorem Inv.stay {P:Hp} {S:HS} {who:Who} (h:Inv P S who) {t:Nat} {p':Ph} (hp':PhOk P S who t p') (hfn:∀a,p'≠ .find a):Inv P (HS.phs S t p') who:=by
 have hp2:PhOk P (HS.phs S t p') who t p':=by cases p'<;>exact hp'
 obtain⟨q1,q2⟩:=h.others (S':=HS.phs S t p') (who':=who) (t:=t) (p':=p') rfl hp2 (fun u _=>rfl) (fun u x _ _ _ hx=>hx) (fun u A s p _ _ _ h1 h2=>⟨h1,h2⟩) hfn
 exact⟨h.c,h.tk,h.l,h.trb,h.hok,q1,q2⟩
theorem Inv.moveMiss {P:Hp} {S:HS} {who:Who} (h:Inv P S who) {t k:Nat} {n:Int} (ht:t<P.nt) (hp:S.ph t=.transfer k n):Inv P (HS.phs S t (.central k n)) who:=by
 have:=h.phs t ht
 rw[hp] at this
 exact h.stay this (by simp)
theorem Inv.moveHit {P:Hp} (hT:Z.isTable P.T) (hna:1<=P.na) {S:HS} {who:Who} (h:Inv P S who) {t k:Nat} {n:Int} (ht:t<P.nt) (hp:S.ph t=.transfer k n) {b:Bt} {v v':Value} (hb:(S.X (t%P.na) k).getLast?=some b):
 ∃who',Inv P (HS.phs (({S with X:=upd2 S.X (t%P.na) k (S.X (t%P.na) k).dropLast}:HS).hnd t v' (S.H t++[⟨k,v,b.2⟩])) t .fill) who':=by
 obtain⟨hk,_,_,hH⟩:k<P.T.length/\1<=n/\n<=32/\S.H t=[]:=by have:=h.phs t ht;rw[hp] at this;exact this
 have ha:t%P.na<P.na:=Nat.mod_lt _ hna
 have hX:S.X (t%P.na) k=(S.X (t%P.na) k).dropLast++[b]:=by
  obtain⟨h1,h2⟩:=List.getLast?_eq_some_iff.1 hb
  rw[h2]
  simp
 rw[hH]
 refine⟨_,h.tokStep (TokRen.hand (.tra (t%P.na)) (.han t) (fun j y=>if j=(k:Int) then b.2.count y else 0)) (t:=t) (p':=.fill) rfl ⟨rfl,rfl,rfl,rfl,rfl⟩ (Kp.hand hT h.tk (by simp) _ (fun j y=>?_) (fun j y=>?_) (tk_e3 (fun u n1 _=>rfl) (fun u _ n2=>upd_ne (ne_han n2)) (fun a n1 _ j=>upd2_ne (fun e=>ne_tra n1 e.1)) (fun _ _=>rfl))) (h.l.ren (TokRen.hand _ _ _)) (fun a j ha' hj c hc=>?_) (fun u hu c hc=>?_) ⟨⟨k,v,b.2⟩,upd_at⟩ (fun u hu=>upd_ne hu) (fun u x _ _ _ hx=>hx) (by simp)⟩
 ·show(if t%P.na<P.na/\0<=j/\j<P.T.length then xtok (upd2 S.X (t%P.na) k (S.X (t%P.na) k).dropLast (t%P.na) j.toNat) y else 0)+(if j=(k:Int) then b.2.count y else 0)<=if t%P.na<P.na/\0<=j/\j<P.T.length then xtok (S.X (t%P.na) j.toNat) y else 0
  by_cases e:j=(k:Int)
  ·subst e
   have c:t%P.na<P.na/\(0:Int)<=(k:Int)/\(k:Int)<P.T.length:=⟨ha,by omega,by omega⟩
   rw[if_pos c,if_pos rfl,if_pos c,Int.toNat_natCast,upd2_at]
   have:xtok (S.X (t%P.na) k) y=_:=congrArg (fun X=>xtok X y) hX
   rw[this,xtok_append]
   simp[xtok]
  ·rw[if_neg e]
   by_cases c:t%P.na<P.na/\0<=j/\j<P.T.length
   ·rw[if_pos c,if_pos c,upd2_ne (fun x=>e (by omega))]
    exact Nat.le_refl _
   ·rw[if_neg c,if_neg c];exact Nat.le_refl _
 ·rw[tk_han ht,tk_han ht]
  show htok (upd S.H t ([]++[⟨k,v,b.2⟩]) t) j y<=_
  rw[upd_at,List.nil_append,htok_one]
  omega
 ·by_cases e:a=t%P.na/\j=k
  ·obtain⟨rfl,rfl⟩:=e
   replace hc:c∈upd2 S.X (t%P.na) j (S.X (t%P.na) j).dropLast (t%P.na) j:=hc
   rw[upd2_at] at hc
   exact h.trb _ _ ha hk c (List.dropLast_subset _ hc)
  ·replace hc:c∈upd2 S.X (t%P.na) k (S.X (t%P.na) k).dropLast a j:=hc
   rw[upd2_ne e] at hc
   exact h.trb a j ha' hj c hc
 ·by_cases e:u=t
  ·subst e
   replace hc:c∈upd S.H u ([]++[⟨k,v,b.2⟩]) u:=hc
   rw[upd_at,List.nil_append,List.mem_singleton] at hc
   subst hc
   have:=h.trb _ _ ha hk b (List.mem_of_getLast? hb)
   exact⟨hk,this.1,this.2⟩
  ·replace hc:c∈upd S.H t ([]++[⟨k,v,b.2⟩]) u:=hc
   rw[upd_ne e] at hc
   exact h.hok u hu c hc
end Go.Proofs.YtcidjimefnhacaaGreatDoor
