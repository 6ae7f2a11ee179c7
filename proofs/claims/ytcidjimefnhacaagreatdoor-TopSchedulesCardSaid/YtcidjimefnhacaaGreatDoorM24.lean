/- TopSchedules, a part of the proof: EE, EF, EG, EH, FA. -/
import Derived.Test.YtcidjimefnhacaaGreatDoorM23
import Derived.Test.YtcidjimefnhacaaGreatDoorM18
import Derived.Test.YtcidjimefnhacaaGreatDoorM11
set_option linter.unusedVariables false
set_option linter.unusedSimpArgs false
namespace Go.Proofs.YtcidjimefnhacaaGreatDoor
open Go.RowKit
def TkR (S:HS) (a m:Nat):Option (Nat×(Nat->Int->Bool))->Ending->Prop
 |none,e=>e=.returned (.tuple #[.int .i64 0,.int .i64 6])
 |some (o,B'),e=>e=.returned (.tuple #[.int .i64 o,.int .i64 0])/\o+m<=256/\(∀x:Int,o<=x->x<o+m->bF (S.B a) x)/\∀x,bF B' x↔bF (S.B a) x/\¬((o:Int)<=x/\x<o+m)
def tkS (S:HS) (a:Nat):Option (Nat×(Nat->Int->Bool))->HS
 |none=>S
 |some (_,B')=>{S with B:=upd S.B a B'}
theorem htake_at {P:Hp} {S:HS} {w:World} {FP:List Nat} (h:HSys P S w FP) {a:Nat} (ha:a<P.na) (m:Nat) (hm0:0<m) (hm:m<=256):Calls Tryz.prog 132 #[.pointer (some ⟨P.bd a,0,none⟩),.int .i64 m,.int .i64 1] w fun e w'=>∃x,TkR S a m x e/\Turns (HSys P (tkS S a x)) w FP w':=by
 obtain⟨f,hf,_,hg⟩:=h.turns (.bud a)
 refine(btake_at (hf.1 ha) m hm0 hm).mono ?_
 rintro e w' (⟨o,rfl,h1,h2,⟨B',h3,h4⟩,h5⟩|⟨rfl,ho⟩)
 ·refine⟨some (o,B'),⟨rfl,h1,h2,h4⟩,hg _ w' (St_B P S a B') (Turns.in_ h5 ⟨fun _=>?_,(BuSt.framed _ _).lt h3⟩)⟩
  show BuSt _ (upd S.B a B' a) _ _
  rw[upd_at];exact h3
 ·exact⟨none,rfl,hg S w' (fun _ _=>rfl) (Turns.same (gd.framed (BuSt.framed _ _)) hf ho)⟩
def Grw (S:HS) (a:Nat) (S1:HS):Prop:=S1=S\/∃s B' L',Gwn S a s B' L'/\S1=S.gw a s B' L'
def GotP (P:Hp) (S:HS) (a m:Nat) (w:World) (FP:List Nat) (e:Ending) (w':World):Prop:=
 (∃S1,Grw S a S1/\e=.returned (.tuple #[.int .i64 0,.int .i64 6])/\Turns (HSys P S1) w FP w')\/
 (∃S1 o B2 L2,Grw S a S1/\e=.returned (.tuple #[.int .i64 (o:Nat),.int .i64 0])/\(o+m<=256/\(∀x:Int,o<=x->x<o+m->bF (S1.B a) x)/\∀x,bF B2 x↔bF (S1.B a) x/\¬((o:Int)<=x/\x<o+m))/\SameL (S1.L a) L2/\Turns (HSys P (S1.bk a B2 L2)) w FP w')
set_option maxHeartbeats 4000000 in
theorem aget_at {P:Hp} {S:HS} {w:World} {FP:List Nat} (h:HSys P S w FP) {a:Nat} (ha:a<P.na) (hn:S.sp.n=256) (hfree:∀x,S.sp.st x=0->¬bF (S.B a) x) (hU:∀j,S.L a j=0↔S.L a (16*(j/16))=0) (m:Nat) (hm0:0<m) (hm:m<=16) (no:Int) (hno:1<=no/\no<=1000):
 Calls Tryz.prog 107 #[.pointer (some ⟨P.ar a,0,none⟩),.int .i64 m,.int .i64 1,.int .i64 no] w (GotP P S a m w FP):=by
 have HA:=Lib.hid ha
 have HC:=Lib.hid (Ctx.start h)
 have c2:=(h.acells ha).c2
 have HNO:=Lib.hid hno
 have CT:=Lib.hid (fun (W:World) (S1:HS) (hc:Ctx P S1 w FP NoL [] W)=>hc.call (α:=Option (Nat×(Nat->Int->Bool))) (R:=TkR S1 a m) (S':=tkS S1 a) NoL.framed (fun FPc hs=>htake_at hs ha m hm0 (by omega)))
 have CG:=Lib.hid (fun (W:World) (hc:Ctx P S w FP NoL [] W)=>hc.call (α:=Option (Nat×(Nat->Int->Bool)×(Nat->Int))) (R:=fun x e=>match x with|none=>e=.returned (.bool false)|some (s,B',L')=>e=.returned (.bool true)/\Gwn S a s B' L') (S':=fun x=>match x with|none=>S|some (s,B',L')=>S.gw a s B' L') NoL.framed (fun FPc hs=>(agrow_at hs ha hn hfree hU).mono (fun e w' h=>h.elim (fun ⟨h1,h2⟩=>⟨none,h1,h2⟩) (fun ⟨h1,s,B',L',h2,h3⟩=>⟨some (s,B',L'),⟨h1,h2⟩,h3⟩))))
 have CU:=Lib.hid (fun (W:World) (S1:HS) (B2:Nat->Int->Bool) (o:Nat) (ho:o+m<=256) (hc:Ctx P {S1 with B:=upd S1.B a B2} w FP NoL [] W)=>hc.call (α:=Value×(Nat->Int)) (R:=fun x e=>e=.returned x.1/\SameL (S1.L a) x.2) (S':=fun x=>S1.bk a B2 x.2) NoL.framed (fun FPc hs=>(huse_at hs ha o m hm0 ho).mono (fun e w' ⟨v,L2,h1,h2,h3⟩=>⟨(v,L2),⟨h1,h3⟩,h2⟩)))
 have CS:=Lib.hid (fun (W:World) (S1:HS) (o:Nat) (ho:o+m<=256) (hc:Ctx P S1 w FP NoL [] W)=>hc.call (α:=Unit) (R:=fun _ e=>e=.returned (.int .i64 0)) (S':=fun _=>S1) NoL.framed (fun FPc hs=>(hset_at hs ha o m hm0 ho no hno).mono (fun e w' ⟨h1,h2⟩=>⟨(),h1,h2⟩)))
 have hmx:max (m:Int) 1=m:=by omega
 have dm:decide ((16:Int)<m)=false:=decide_eq_false (by omega)
 have dm':decide (16<m)=false:=decide_eq_false (by omega)
 clear h ha hn hfree hU hno
 go_enter Tryz.func107,Tryz.ntmps107
 go_wp2_with fail
 refine(CT.out _ _ HC.out).mono ?_
 rintro r w1 ⟨x,hx,hc1⟩
 rcases x with _|⟨o,B'⟩
 ·have hx:r=_:=hx
  subst hx
  have HC1:=Lib.hid (show Ctx P S w FP NoL [] w1 from hc1)
  clear hc1
  go_wp2_with fail
  go_loopw[12] (fun t wr=>t=.int .i64 16/\Ctx P S w FP NoL [] wr) (fun _ _=>0)
  case atStart=>exact⟨rfl,HC1.out⟩
  case round=>
   obtain⟨rfl,hc⟩:=hrel
   have HC2:=Lib.hid hc
   clear hc
   go_wp2_with fail
   refine(CG.out _ HC2.out).mono ?_
   rintro r w2 ⟨x,hx,hc3⟩
   rcases x with _|⟨s,B',L'⟩
   ·have hx:r=_:=hx
    subst hx
    have HC3:=Lib.hid (show Ctx P S w FP NoL [] w2 from hc3)
    clear hc3
    go_wp2_with fail
    go_ret2
    exact .inl ⟨S,.inl rfl,rfl,HC3.out.turns⟩
   ·obtain⟨hx,hgw⟩:r=_/\_:=hx
    subst hx
    have HGW:=Lib.hid hgw
    have HC3:=Lib.hid (show Ctx P (S.gw a s B' L') w FP NoL [] w2 from hc3)
    have q2:=(HC3.out.sys_).elim (fun FPd hs=>(hs.acells HA.out).c2)
    clear hc3 hgw
    go_wp2_with fail
    refine(CT.out _ _ HC3.out).mono ?_
    rintro r w3 ⟨x,hx,hc4⟩
    rcases x with _|⟨o,B2⟩
    ·have hx:r=_:=hx
     subst hx
     have HC4:=Lib.hid (show Ctx P (S.gw a s B' L') w FP NoL [] w3 from hc4)
     clear hc4
     go_wp2_with fail
     go_ret2
     exact .inl ⟨_,.inr ⟨s,B',L',HGW.out,rfl⟩,rfl,HC4.out.turns⟩
    ·obtain⟨hx,ho,hob⟩:r=_/\_/\_:=hx
     subst hx
     have HO:=Lib.hid ho
     have HOB:=Lib.hid hob
     have HC4:=Lib.hid (show Ctx P {S.gw a s B' L' with B:=upd (S.gw a s B' L').B a B2} w FP NoL [] w3 from hc4)
     have q3:=(HC4.out.sys_).elim (fun FPd hs=>(hs.acells HA.out).c3)
     clear hc4 hob ho
     go_wp2_with fail
     refine(CU.out _ _ _ o HO.out HC4.out).mono ?_
     rintro r w4 ⟨⟨v,L2⟩,⟨rfl,hL2⟩,hc5⟩
     have HL2:=Lib.hid hL2
     have HC5:=Lib.hid hc5
     have q4:=(HC5.out.sys_).elim (fun FPd hs=>(hs.acells HA.out).c4)
     clear hc5 hL2
     go_wp2_with fail
     refine(CS.out _ _ o HO.out HC5.out).mono ?_
     rintro r w5 ⟨_,rfl,hc6⟩
     have HC6:=Lib.hid hc6
     clear hc6
     go_wp2_with fail
     go_ret2
     exact .inr ⟨_,o,B2,L2,.inr ⟨s,B',L',HGW.out,rfl⟩,rfl,⟨HO.out,HOB.out⟩,HL2.out,HC6.out.turns⟩
 ·obtain⟨hx,ho,hob⟩:r=_/\_/\_:=hx
  subst hx
  have HO:=Lib.hid ho
  have HOB:=Lib.hid hob
  have HC4:=Lib.hid (show Ctx P {S with B:=upd S.B a B'} w FP NoL [] w1 from hc1)
  have q3:=(HC4.out.sys_).elim (fun FPd hs=>(hs.acells HA.out).c3)
  clear hc1 hob ho
  go_wp2_with fail
  refine(CU.out _ _ _ o HO.out HC4.out).mono ?_
  rintro r w4 ⟨⟨v,L2⟩,⟨rfl,hL2⟩,hc5⟩
  have HL2:=Lib.hid hL2
  have HC5:=Lib.hid hc5
  have q4:=(HC5.out.sys_).elim (fun FPd hs=>(hs.acells HA.out).c4)
  clear hc5 hL2
  go_wp2_with fail
  refine(CS.out _ _ o HO.out HC5.out).mono ?_
  rintro r w5 ⟨_,rfl,hc6⟩
  have HC6:=Lib.hid hc6
  clear hc6
  go_wp2_with fail
  go_ret2
  exact .inr ⟨S,o,B',L2,.inl rfl,rfl,⟨HO.out,HOB.out⟩,HL2.out,HC6.out.turns⟩
namespace Ctx
variable {P:Hp} {Sc S2:HS} {w W W':World} {FP:List Nat} {Ls Sn:World->List Nat->Prop} {bx:List (Nat×TypeId×Array Value)}
theorem cenCells (h:Ctx P Sc w FP Ls bx W) {a k:Nat} (ha:a<P.na) (hk:k<P.T.length):W.cell? ⟨P.ar a,5,none⟩=some (.slice (some ⟨P.gc a,0,none⟩) P.T.length (P.cc a))/\W.cell? ⟨P.gc a,k,none⟩=some (.pointer (some ⟨P.ce a k,0,none⟩))/\P.T.length<=P.cc a:=by
 obtain⟨FPc,hs⟩:=h.sys_
 obtain⟨_,_,_,_,_,hcc,_⟩:=hs.atab ha hk
 exact⟨(hs.acells ha).c5,(hs.arow ha hk).1,hcc⟩
end Ctx
theorem hladd_at {P:Hp} {S:HS} {w:World} {FP:List Nat} (h:HSys P S w FP) {a k:Nat} (ha:a<P.na) (hk:k<P.T.length) (x:Int) (hx:I64 x):Calls Tryz.prog 108 #[.pointer (some ⟨P.ce a k,0,none⟩),.int .i64 x] w fun e w'=>e=.returned (.int .i64 (addE (S.M a k) (P.cl k) x))/\Turns (HSys P {S with M:=upd2 S.M a k (addM (S.M a k) (P.cl k) x)}) w FP w':=by
 obtain⟨f,hf,_,hg⟩:=h.turns (.cen a k)
 refine(lAdd_at (hf.1 ⟨ha,hk⟩) x hx).mono ?_
 rintro e w' ⟨rfl,ho,f',h1,h2⟩
 refine⟨rfl,hg _ w' (St_M P S a k _) ⟨ho,f',⟨fun _=>?_,h1.lt⟩,h2⟩⟩
 show ListSt _ _ _ _ (upd2 S.M a k _ a k)
 rw[upd2_at];exact h1
def GrownP (P:Hp) (S:HS) (a k:Nat) (w:World) (FP:List Nat) (e:Ending) (w':World):Prop:=
 (∃S1,Grw S a S1/\e=.returned (.int .i64 6)/\Turns (HSys P S1) w FP w')\/
 (∃(S1:HS) (o:Nat) (B2:Nat->Int->Bool) (L2:Nat->Int) (m:Nat),(m:Int)=(Z.cAt P.T k).p/\Grw S a S1/\e=.returned (.int .i64 (addE (S.M a k) (P.cl k) o))/\(o+m<=256/\(∀x:Int,o<=x->x<o+m->bF (S1.B a) x)/\∀x,bF B2 x↔bF (S1.B a) x/\¬((o:Int)<=x/\x<o+m))/\SameL (S1.L a) L2/\
  Turns (HSys P {S1.bk a B2 L2 with M:=upd2 S.M a k (addM (S.M a k) (P.cl k) o)}) w FP w')
theorem Grw.m {S S1:HS} {a:Nat} (h:Grw S a S1):S1.M=S.M/\S1.R=S.R/\S1.X=S.X/\S1.C=S.C/\S1.H=S.H/\S1.hv=S.hv/\S1.ph=S.ph/\S1.lv=S.lv:=by
 rcases h with rfl|⟨s,B',L',_,rfl⟩<;>exact⟨rfl,rfl,rfl,rfl,rfl,rfl,rfl,rfl⟩
set_option maxHeartbeats 2000000 in
theorem aGrow_at {P:Hp} {S:HS} {w:World} {FP:List Nat} (h:HSys P S w FP) {a k:Nat} (ha:a<P.na) (hk:k<P.T.length) (hn:S.sp.n=256) (hfree:∀x,S.sp.st x=0->¬bF (S.B a) x) (hU:∀j,S.L a j=0↔S.L a (16*(j/16))=0):
 Calls Tryz.prog 88 #[.pointer (some ⟨P.ar a,0,none⟩),.int .i64 k] w (GrownP P S a k w FP):=by
 have CK:=Lib.hid (acheck_at h ha hk)
 have z0:=(h.acells ha).c0
 obtain⟨_,s1,_,sok,htc,_,_⟩:=h.atab ha hk
 obtain⟨_,_,_,p1,p2,_⟩:=sok
 obtain⟨m,hm⟩:∃m:Nat,(m:Int)=(Z.cAt P.T k).p:=⟨((Z.cAt P.T k).p).toNat,by omega⟩
 have HM:=Lib.hid hm
 rw[<-hm] at s1 p1 p2
 have hT40:=h.isT.2.1
 have HK:=Lib.hid (And.intro ha hk)
 have CG:=Lib.hid ((Ctx.start h).call (α:=Option (Nat×HS×(Nat->Int->Bool)×(Nat->Int))×HS) (R:=fun x e=>match x with
  |(none,S1)=>Grw S a S1/\e=.returned (.tuple #[.int .i64 0,.int .i64 6])
  |(some (o,S1,B2,L2),_)=>Grw S a S1/\e=.returned (.tuple #[.int .i64 (o:Nat),.int .i64 0])/\(o+m<=256/\(∀x:Int,o<=x->x<o+m->bF (S1.B a) x)/\∀x,bF B2 x↔bF (S1.B a) x/\¬((o:Int)<=x/\x<o+m))/\SameL (S1.L a) L2)
  (S':=fun x=>match x with
   |(none,S1)=>S1
   |(some (_,S1,B2,L2),_)=>S1.bk a B2 L2) NoL.framed (fun FPc hs=>(aget_at hs ha hn hfree hU m (by omega) (by omega) ((k:Int)+1) (by omega)).mono (fun e w' h=>h.elim (fun ⟨S1,h1,h2,h3⟩=>⟨(none,S1),⟨h1,h2⟩,h3⟩) (fun ⟨S1,o,B2,L2,h1,h2,h3,h4,h5⟩=>⟨(some (o,S1,B2,L2),S1),⟨h1,h2,h3,h4⟩,h5⟩))))
 have hka:(k:Int)<40:=by omega
 clear h ha hn hfree hU hm
 generalize hT:P.T.length=n at *
 have HT:=Lib.hid hT
 clear hT
 go_enter Tryz.func88,Tryz.ntmps88
 go_wp2_with (first|(go_at_call 104;with_reducible refine Still.use CK.out ?_))
 refine CG.out.mono ?_
 rintro r w1 ⟨x,hx,hc1⟩
 rcases x with ⟨_|⟨o,S1,B2,L2⟩,S0⟩
 ·obtain⟨h1,hx⟩:Grw S a S0/\r=_:=hx
  subst hx
  have H1:=Lib.hid h1
  have HC1:=Lib.hid (show Ctx P S0 w FP NoL [] w1 from hc1)
  clear hc1 h1 CG
  go_wp2_with fail
  go_ret
  exact .inl ⟨S0,H1.out,rfl,HC1.out.turns⟩
 ·obtain⟨h1,hx,h3,h4⟩:Grw S a S1/\r=_/\_/\_:=hx
  subst hx
  have H1:=Lib.hid h1
  have H3:=Lib.hid h3
  have H4:=Lib.hid h4
  have HC1:=Lib.hid (show Ctx P (S1.bk a B2 L2) w FP NoL [] w1 from hc1)
  have ho256:o<=256:=by have:=h3.1;omega
  obtain⟨y5,q5,hcc⟩:=HC1.out.cenCells HK.out.1 (by rw[HT.out];exact hk)
  rw[HT.out] at y5 hcc
  have CA:=Lib.hid (HC1.out.call (α:=Unit) (R:=fun _ e=>e=.returned (.int .i64 (addE (S.M a k) (P.cl k) o))) (S':=fun _=>{S1.bk a B2 L2 with M:=upd2 S.M a k (addM (S.M a k) (P.cl k) o)}) NoL.framed (fun FPc hs=>(hladd_at (k:=k) hs HK.out.1 (by rw[HT.out];exact hk) (o:Int) (by unfold I64;omega)).mono (fun e w' ⟨h5,h6⟩=>by
   have e1:(S1.bk a B2 L2).M=S.M:=h1.m.1
   rw[e1] at h5 h6
   exact⟨(),h5,h6⟩)))
  clear hc1 h1 h3 h4 CG
  go_wp2_with fail
  refine CA.out.mono ?_
  rintro r w2 ⟨_,rfl,hc2⟩
  have HC2:=Lib.hid hc2
  clear hc2 CA
  go_wp2_with fail
  go_ret
  exact .inr ⟨S1,o,B2,L2,m,HM.out,H1.out,rfl,H3.out,H4.out,HC2.out.turns⟩
end Go.Proofs.YtcidjimefnhacaaGreatDoor
namespace Go.Proofs.YtcidjimefnhacaaGreatDoor
open Go.RowKit
theorem und_mii:Tryz.prog.underlying 134=some (.map 3 3):=by kernel_rfl
theorem zero_int (W:World):(zeroValue 3).run Tryz.prog W=.ok (.int .i64 0) W:=by kernel_rfl
theorem wpList_lookOk {w:World} {ops:Array Oper} {rest:List Oper} {o:Oper} {a:Act} {Q:Exit->Act->World->Prop} (hgd:o.guard=none) (T V:TypeId) (mm x:Operand) (ho:o.op=.lookup T mm x true) {z:Value} (hT:Tryz.prog.underlying T=some (.map 3 V)) (hz:∀W,(zeroValue V).run Tryz.prog W=.ok z W)
 {b c:Nat} {G:Int->Option Value} (hm:a.eval mm=.map (some b)) (hI:IMap w b G c) {k:Int} (hx:a.eval x=.int .i64 k) (hk:I64 k)
 (h:wpList Tryz.prog ops Q rest (a.put o.dst (.tuple #[(G k).getD z,.bool (G k).isSome])) w):wpList Tryz.prog ops Q (o::rest) a w:=by
 refine wpList_plain hgd fun K hK=>?_
 have hl:=hI.look hT hz hk true
 unfold Oper.wp
 simp only[if_true] at hl
 simp[execOp,ho,hm,hx,hl,Result.andThen]
 exact hK _ _ h
def TookP (P:Hp) (S:HS) (a m:Nat) (w:World) (FP:List Nat) (e:Ending) (w':World):Prop:=
 (∃S1,Grw S a S1/\e=.returned (.tuple #[.int .i64 0,.int .i64 6])/\Turns (HSys P S1) w FP w')\/
 (∃(S1:HS) (o:Nat) (B2:Nat->Int->Bool) (L2:Nat->Int),Grw S a S1/\e=.returned (.tuple #[.int .i64 (o:Nat),.int .i64 0])/\(o+m<=256/\(∀x:Int,o<=x->x<o+m->bF (S1.B a) x)/\∀x,bF B2 x↔bF (S1.B a) x/\¬((o:Int)<=x/\x<o+m))/\SameL (S1.L a) L2/\
  Turns (HSys P {S1.bk a B2 L2 with R:=upd S.R a (fun j=>if j=(o:Int) then some (m:Int) else S.R a j)}) w FP w')
set_option maxHeartbeats 2000000 in
theorem atakeP_at {P:Hp} {S:HS} {w:World} {FP:List Nat} (h:HSys P S w FP) {a:Nat} (ha:a<P.na) (hn:S.sp.n=256) (hfree:∀x,S.sp.st x=0->¬bF (S.B a) x) (hU:∀j,S.L a j=0↔S.L a (16*(j/16))=0) (m:Nat) (hm0:0<m) (hm:m<=16):
 Calls Tryz.prog 90 #[.pointer (some ⟨P.ar a,0,none⟩),.int .i64 m,.int .i64 1] w (TookP P S a m w FP):=by
 have CM:=Lib.hid (amade_at h ha)
 have HA:=Lib.hid ha
 have CG:=Lib.hid ((Ctx.start h).call (α:=Option (Nat×HS×(Nat->Int->Bool)×(Nat->Int))×HS) (R:=fun x e=>match x with
  |(none,S1)=>Grw S a S1/\e=.returned (.tuple #[.int .i64 0,.int .i64 6])
  |(some (o,S1,B2,L2),_)=>Grw S a S1/\e=.returned (.tuple #[.int .i64 (o:Nat),.int .i64 0])/\(o+m<=256/\(∀x:Int,o<=x->x<o+m->bF (S1.B a) x)/\∀x,bF B2 x↔bF (S1.B a) x/\¬((o:Int)<=x/\x<o+m))/\SameL (S1.L a) L2)
  (S':=fun x=>match x with
   |(none,S1)=>S1
   |(some (_,S1,B2,L2),_)=>S1.bk a B2 L2) NoL.framed (fun FPc hs=>(aget_at hs ha hn hfree hU m (by omega) (by omega) 41 (by omega)).mono (fun e w' h=>h.elim (fun ⟨S1,h1,h2,h3⟩=>⟨(none,S1),⟨h1,h2⟩,h3⟩) (fun ⟨S1,o,B2,L2,h1,h2,h3,h4,h5⟩=>⟨(some (o,S1,B2,L2),S1),⟨h1,h2,h3,h4⟩,h5⟩))))
 have d1:decide ((m:Int)<1)=false:=decide_eq_false (by omega)
 have d1':decide (m<1)=false:=decide_eq_false (by omega)
 have d2:decide ((64:Int)<m)=false:=decide_eq_false (by omega)
 have d2':decide (64<m)=false:=decide_eq_false (by omega)
 clear h ha hn hfree hU
 go_enter Tryz.func90,Tryz.ntmps90
 go_wp2_with (first|(go_at_call 111;with_reducible refine Still.use CM.out ?_))
 refine CG.out.mono ?_
 rintro r w1 ⟨x,hx,hc1⟩
 rcases x with ⟨_|⟨o,S1,B2,L2⟩,S0⟩
 ·obtain⟨h1,hx⟩:Grw S a S0/\r=_:=hx
  subst hx
  have H1:=Lib.hid h1
  have HC1:=Lib.hid (show Ctx P S0 w FP NoL [] w1 from hc1)
  clear hc1 h1 CG
  go_wp2_with fail
  go_ret2
  exact .inl ⟨S0,H1.out,rfl,HC1.out.turns⟩
 ·obtain⟨h1,hx,h3,h4⟩:Grw S a S1/\r=_/\_/\_:=hx
  subst hx
  have H1:=Lib.hid h1
  have H3:=Lib.hid h3
  have H4:=Lib.hid h4
  have HC1:=Lib.hid (show Ctx P (S1.bk a B2 L2) w FP NoL [] w1 from hc1)
  have ho256:o<=256:=by have:=h3.1;omega
  have hoi:I64 (o:Int):=by unfold I64;omega
  have y7:=HC1.out.sys_.elim (fun FPd hs=>(hs.acells HA.out).c7)
  obtain⟨f,hf,hg⟩:=HC1.out.open_ NoL.framed (.run a)
  obtain⟨⟨c,hI⟩,rfl⟩:RunSt (P.rn a) (S1.R a) w1 f:=hf.1 HA.out
  have HG:=Lib.hid hg
  have HI:=Lib.hid hI
  clear hc1 h1 h3 h4 CG hf hg hI
  go_wp2_with (at_mapUpdate;refine wpList_put (v:=.int .i64 (m:Int)) rfl _ _ _ 134 3 rfl und_mii rfl HI.out rfl hoi rfl ?_;intro w2 ho2 hI2)
  go_ret2
  refine .inr ⟨S1,o,B2,L2,H1.out,rfl,H3.out,H4.out,?_⟩
  have e1:S1.R=S.R:=H1.out.m.2.1
  have hT:=HG.out {S1.bk a B2 L2 with R:=upd (S1.bk a B2 L2).R a (fun j=>if j=(o:Int) then some (m:Int) else S1.R a j)} w2 (St_R P _ a _) ⟨ho2,[P.rn a],⟨fun _=>⟨⟨_,hI2.ext (fun j=>?_)⟩,rfl⟩,fun b hb=>by simp at hb;subst hb;exact hI2.lt⟩,fun b hb=>.inl hb⟩
  ·have e2:(S1.bk a B2 L2).R=S.R:=e1
   rw[e2,e1] at hT
   exact hT.turns
  ·show _=runG (upd _ a _ a) j
   rw[upd_at]
   unfold runG
   by_cases hj:j=(o:Int)
   ·simp[hj]
   ·simp[hj]
def GaveP (P:Hp) (S:HS) (a:Nat) (s:Int) (w:World) (FP:List Nat) (e:Ending) (w':World):Prop:=
 (S.R a s=none/\e=.returned (.int .i64 8)/\Turns (HSys P S) w FP w')\/
 (∃p B' L',S.R a s=some p/\e=.returned (.int .i64 0)/\Turns (HSys P ({S with R:=upd S.R a (fun j=>if j=s then none else S.R a j)}.bk a B' L')) w FP w'/\(∀x,bF B' x↔bF (S.B a) x\/(s<=x/\x<s+p))/\SameL (S.L a) L')
set_option maxHeartbeats 2000000 in
theorem agiveP_at {P:Hp} {S:HS} {w:World} {FP:List Nat} (h:HSys P S w FP) {a:Nat} (ha:a<P.na) (s:Int) (hs:I64 s) (hok:∀p,S.R a s=some p->0<=s/\1<=p/\s+p<=256/\∀x,s<=x->x<s+p->¬bF (S.B a) x):
 Calls Tryz.prog 98 #[.pointer (some ⟨P.ar a,0,none⟩),.int .i64 s] w (GaveP P S a s w FP):=by
 have CM:=Lib.hid (amade_at h ha)
 have HA:=Lib.hid ha
 have HH:=Lib.hid h
 have z7:=(h.acells ha).c7
 obtain⟨f,hf,hg⟩:=(Ctx.start h).open_ NoL.framed (.run a)
 obtain⟨⟨c,hI⟩,rfl⟩:RunSt (P.rn a) (S.R a) w f:=hf.1 ha
 have HI:=Lib.hid hI
 have HG:=Lib.hid hg
 have HS:=Lib.hid hs
 clear h ha hf hg hI
 cases hR:S.R a s with
 |none=>
  have hG:Hid (runG (S.R a) s=none):=(by unfold runG;rw[hR];rfl:runG (S.R a) s=none)
  have HR:=Lib.hid hR
  clear hR hok
  go_enter Tryz.func98,Tryz.ntmps98
  go_wp2_with (first
   |(go_at_call 111;with_reducible refine Still.use CM.out ?_)
   |(at_lookup;refine wpList_lookOk rfl _ _ _ _ rfl und_mii zero_int rfl HI.out rfl HS.out ?_;rw[hG.out,Option.getD_none,Option.isSome_none]))
  go_ret
  exact .inl ⟨HR.out,rfl,Turns.in_ (Only.refl _ _) HH.out⟩
 |some p=>
  have hG:Hid (runG (S.R a) s=some (.int .i64 p)):=(by unfold runG;rw[hR];rfl:runG (S.R a) s=_)
  have HR:=Lib.hid hR
  have HOK:=Lib.hid (hok p hR)
  clear hR hok
  go_enter Tryz.func98,Tryz.ntmps98
  go_wp2_with (first
   |(go_at_call 111;with_reducible refine Still.use CM.out ?_)
   |(at_lookup;refine wpList_lookOk rfl _ _ _ _ rfl und_mii zero_int rfl HI.out rfl HS.out ?_;rw[hG.out,Option.getD_some,Option.isSome_some])
   |(at_delete;refine wpList_del rfl _ _ 134 3 rfl und_mii rfl HI.out rfl HS.out ?_;intro w2 ho2 hI2))
  have hT:=HG.out {S with R:=upd S.R a (fun j=>if j=s then none else S.R a j)} w2 (St_R P _ a _) ⟨ho2,[P.rn a],⟨fun _=>⟨⟨_,hI2.ext (fun j=>by
   show _=runG (upd _ a _ a) j
   rw[upd_at]
   unfold runG
   by_cases hj:j=s
   ·simp[hj]
   ·simp[hj])⟩,rfl⟩,fun b hb=>by simp at hb;subst hb;exact hI2.lt⟩,fun b hb=>.inl hb⟩
  have hB:=hT.push NoL.framed #[.int .i64 s,.int .i64 p] 243
  have CB:=Lib.hid (hB.callB (f:=120) (args:=#[.pointer (some ⟨P.ar a,0,none⟩),.slice (some ⟨w2.heap.size,0,none⟩) 1 1]) (α:=(Nat->Int->Bool)×(Nat->Int)) (R:=fun x e=>e=.returned (.tuple #[])/\(∀y,bF x.1 y↔bF (S.B a) y\/(s<=y/\y<s+p))/\SameL (S.L a) x.2) (S':=fun x=>{S with R:=upd S.R a (fun j=>if j=s then none else S.R a j)}.bk a x.1 x.2) NoL.framed (fun FPc fs hs hL hfs hbx=>by
   have hk:=hbx (w2.heap.size,243,#[.int .i64 s,.int .i64 p]) (by simp)
   have hbk:=hB.box (x:=(w2.heap.size,243,#[.int .i64 s,.int .i64 p])) (by simp)
   have hk1:=HOK.out
   refine(aback_at hs HA.out (rs:=[(s,p)]) (n:=1) ⟨_,1,rfl,fun _=>⟨_,rfl,fun j hj=>?_⟩⟩ (fun g hg=>?_) rfl (by decide) (fun i hi=>?_) (fun i j hij hj=>?_) (fun i hi=>?_)).mono ?_
   ·have:j=0:=by omega
    subst this
    exact⟨hbk.cell_ 0 rfl,hbk.cell_ 1 rfl⟩
   ·have:w2.heap.size=g:=by injection hg
    subst this
    exact hk
   ·have:i=0:=by omega
    subst this
    exact⟨hk1.1,hk1.2.1,hk1.2.2.1⟩
   ·omega
   ·have:i=0:=by omega
    subst this
    exact hk1.2.2.2
   ·rintro e w' ⟨rfl,B',L',h1,h2,h3⟩
    refine⟨(B',L'),⟨rfl,fun y=>?_,h3⟩,h1⟩
    rw[h2]
    constructor
    ·rintro (h|⟨i,hi,h⟩)
     ·exact .inl h
     ·have:i=0:=by omega
      subst this
      exact .inr h
    ·rintro (h|h)
     ·exact .inl h
     ·exact .inr ⟨0,by decide,h⟩))
  clear hT hB hI2 ho2
  go_wp2_with fail
  refine CB.out.mono ?_
  rintro r w3 ⟨⟨B',L'⟩,⟨rfl,h1,h2⟩,hc⟩
  have H:=Lib.hid (And.intro h1 (And.intro h2 hc))
  clear h1 h2 hc CB
  go_wp2_with fail
  go_ret
  exact .inr ⟨p,B',L',HR.out,rfl,H.out.2.2.turns,H.out.1,H.out.2.1⟩
theorem OSl.readsI {w:World} {v:Value} {fs:List Nat} {l:List Int} (h:OSl w v fs l):∃A c,v=.slice A l.length c/\l.length<=c/\ReadsI w A l.length l/\(0<l.length->∀ad,A=some ad->ad.block∈fs):=by
 rcases h with ⟨rfl,A,c,rfl,_⟩|⟨h0,b,hb,h⟩
 ·exact⟨A,c,rfl,Nat.zero_le _,⟨rfl,fun h=>absurd h (Nat.lt_irrefl 0)⟩,fun h=>absurd h (Nat.lt_irrefl 0)⟩
 ·obtain⟨ad,cap,rfl,h1,h2,h3⟩:=h.reads
  exact⟨some ad,cap,rfl,h1,h3,fun _ ad' e=>by injection e with e;rw[<-e,h2];exact hb⟩
def ToCP (P:Hp) (S:HS) (a k:Nat) (o:List Int) (w:World) (FP:List Nat) (w':World):Prop:=∃B' L',Turns (HSys P ({S with M:=upd2 S.M a k (putM (S.M a k) o)}.bk a B' L')) w FP w'/\(∀x,bF B' x↔bF (S.B a) x\/∃i,i<(putR (S.M a k) o).length/\(rAt (putR (S.M a k) o) i).1<=x/\x<(rAt (putR (S.M a k) o) i).1+(rAt (putR (S.M a k) o) i).2)/\SameL (S.L a) L'
def RSt (v:Value) (n:Nat) (rs:List (Int×Int)) (w:World) (fs:List Nat):Prop:=(ReadsR w v n rs/\∀g,v.ownBlock=some g->g∈fs)/\∀b∈fs,b<w.heap.size
theorem RSt.framed (v:Value) (n:Nat) (rs:List (Int×Int)):Framed (RSt v n rs):=by
 constructor
 ·rintro w w' fp l ⟨⟨h1,h2⟩,h3⟩ ho hb
  exact⟨⟨h1.only ho (fun g hg=>hb g (h2 g hg)),h2⟩,fun b hb'=>Nat.lt_of_lt_of_le (h3 b hb') ho.size⟩
 ·rintro w fp ⟨_,h3⟩ b hb
  exact h3 b hb
theorem hput_at {P:Hp} {S:HS} {w:World} {FP:List Nat} (h:HSys P S w FP) {a k:Nat} (ha:a<P.na) (hk:k<P.T.length) {A:Option Addr} {c:Nat} {o:List Int} {fs:List Nat} (hrd:ReadsI w A o.length o) (hc:o.length<=c) (hbl:0<o.length->∀ad,A=some ad->ad.block∈fs) (hfs:∀b∈fs,b∉FP) (hi:∀x∈o,I64 x) (hl:o.length<=256):
 Calls Tryz.prog 147 #[.pointer (some ⟨P.ce a k,0,none⟩),.slice A o.length c] w fun e w'=>∃v,e=.returned (.tuple #[v,.int .i64 (putE (S.M a k) o)])/\Gives (HSys P {S with M:=upd2 S.M a k (putM (S.M a k) o)}) (RSt v (putR (S.M a k) o).length (putR (S.M a k) o)) w FP w':=by
 obtain⟨f,hf,hff,hg⟩:=h.gives (.cen a k)
 have hL:ListSt w (P.ce a k) f (P.cl k) (S.M a k):=hf.1 ⟨ha,hk⟩
 refine(lPut_at hL A o.length c o hrd (fun j hj=>hi _ (by rw[iAt,List.getD_eq_getElem?_getD,List.getElem?_eq_getElem hj];exact List.getElem_mem _)) (by omega) hc (fun h0 ad e hb=>hfs _ (hbl h0 ad e) (hff _ hb))).mono ?_
 rintro e w' ⟨v,rfl,ho,h1,h2⟩
 refine⟨v,rfl,hg _ _ w' (St_M P S a k _) ⟨ho,f,v.ownBlock.toList,⟨fun _=>?_,h1.lt⟩,⟨⟨own_readsR h2 rfl,fun g hg=>Option.mem_toList.2 hg⟩,fun b hb=>own_lt' h2 b (Option.mem_toList.1 hb)⟩,fun b hb=>.inl hb,fun b hb=>?_⟩⟩
 ·show ListSt _ _ _ _ (upd2 S.M a k _ a k)
  rw[upd2_at];exact h1
 ·have:=own_base h2 b (Option.mem_toList.1 hb)
  exact⟨.inr this,fun hb2=>by have:=hL.lt b hb2;omega⟩
set_option maxHeartbeats 2000000 in
theorem atoC_at {P:Hp} {S:HS} {w:World} {FP:List Nat} (h:HSys P S w FP) {a k:Nat} (ha:a<P.na) (hk:k<P.T.length) {v:Value} {fs:List Nat} {o:List Int} (hv:OSl w v fs o) (hfs:∀b∈fs,b∉FP) (hi:∀x∈o,I64 x) (hl:o.length<=256) (hn9:(putR (S.M a k) o).length<=1024)
 (hok:∀i,i<(putR (S.M a k) o).length->0<=(rAt (putR (S.M a k) o) i).1/\1<=(rAt (putR (S.M a k) o) i).2/\(rAt (putR (S.M a k) o) i).1+(rAt (putR (S.M a k) o) i).2<=256)
 (hap:∀i j,i<j->j<(putR (S.M a k) o).length->∀x,(rAt (putR (S.M a k) o) i).1<=x->x<(rAt (putR (S.M a k) o) i).1+(rAt (putR (S.M a k) o) i).2->(rAt (putR (S.M a k) o) j).1<=x->x<(rAt (putR (S.M a k) o) j).1+(rAt (putR (S.M a k) o) j).2->False)
 (hfree:∀i,i<(putR (S.M a k) o).length->∀x,(rAt (putR (S.M a k) o) i).1<=x->x<(rAt (putR (S.M a k) o) i).1+(rAt (putR (S.M a k) o) i).2->¬bF (S.B a) x):
 Calls Tryz.prog 119 #[.pointer (some ⟨P.ar a,0,none⟩),.int .i64 k,v] w fun e w'=>(∃n,e=.returned (.int .i64 n))/\ToCP P S a k o w FP w':=by
 have CK:=Lib.hid (acheck_at h ha hk)
 obtain⟨y5,q5,hcc⟩:=(Ctx.start h).cenCells ha hk
 obtain⟨A,c,rfl,hc,hrd,hbl⟩:=hv.readsI
 have HA:=Lib.hid ha
 have CP:Hid (Calls Tryz.prog 147 #[.pointer (some ⟨P.ce a k,0,none⟩),.slice A o.length c] w fun e w'=>∃v,e=.returned (.tuple #[v,.int .i64 (putE (S.M a k) o)])/\Ctx P {S with M:=upd2 S.M a k (putM (S.M a k) o)} w FP (RSt v (putR (S.M a k) o).length (putR (S.M a k) o)) [] w'):=Lib.hid ((hput_at h ha hk hrd hc hbl hfs hi hl).mono (fun e w' ⟨v,h1,h2⟩=>⟨v,h1,Ctx.ofGives h h2⟩))
 have HN:=Lib.hid hn9
 have HOK:=Lib.hid hok
 have HAP:=Lib.hid hap
 have HFR:=Lib.hid hfree
 have HZ:Hid (putE (S.M a k) o≠0->putR (S.M a k) o=[]/\putM (S.M a k) o=S.M a k):=fun hz=>⟨if_neg hz,if_neg hz⟩
 clear h ha hv hfs hi hl hn9 hok hap hfree hrd hbl
 generalize hT:P.T.length=n at *
 have HT:=Lib.hid hT
 clear hT
 generalize hol:o.length=ol at *
 clear hol
 go_enter Tryz.func119,Tryz.ntmps119
 go_wp2_with (first|(go_at_call 104;with_reducible refine Still.use CK.out ?_))
 refine CP.out.mono ?_
 rintro r w1 ⟨v,rfl,hc1⟩
 obtain⟨fsv,hrs⟩:=hc1.part
 obtain⟨Av,cv,rfl,_⟩:=hrs.1.1
 have HC1:=Lib.hid hc1
 generalize hr:putR (S.M a k) o=rs at *
 have HR:=Lib.hid hr
 generalize hrl:rs.length=rl at *
 have HRL:=Lib.hid hrl
 by_cases hE:putE (S.M a k) o=0
 ·have CB:=Lib.hid (hc1.callB (f:=120) (args:=#[.pointer (some ⟨P.ar a,0,none⟩),.slice Av rl cv]) (α:=(Nat->Int->Bool)×(Nat->Int)) (R:=fun x e=>e=.returned (.tuple #[])/\(∀y,bF x.1 y↔bF (S.B a) y\/∃i,i<rl/\(rAt rs i).1<=y/\y<(rAt rs i).1+(rAt rs i).2)/\SameL (S.L a) x.2) (S':=fun x=>{S with M:=upd2 S.M a k (putM (S.M a k) o)}.bk a x.1 x.2) (RSt.framed _ _ _) (fun FPc fs hs hL hfs hbx=>by
   refine(aback_at hs HA.out hL.1.1 (fun g hg=>hfs g (hL.1.2 g hg)) HRL.out.symm HN.out HOK.out HAP.out HFR.out).mono ?_
   rintro e w' ⟨rfl,B',L',h1,h2,h3⟩
   exact⟨(B',L'),⟨rfl,h2,h3⟩,h1⟩))
  have HE:=Lib.hid hE
  rw[hE]
  clear hc1 hrs hr hrl hE CP
  go_wp2_with fail
  refine CB.out.mono ?_
  rintro r w3 ⟨⟨B',L'⟩,⟨rfl,h1,h2⟩,hc⟩
  have H:=Lib.hid (And.intro h1 (And.intro h2 hc))
  clear h1 h2 hc CB
  go_wp2_with fail
  go_ret
  refine⟨⟨0,rfl⟩,B',L',H.out.2.2.turns,?_,H.out.2.1⟩
  rw[HR.out,HRL.out]
  exact H.out.1
 ·have hz:=HZ.out hE
  have HE:=Lib.hid hz
  generalize hee:putE (S.M a k) o=E at *
  have hb:(E != 0)=true:=bne_iff_ne.2 hE
  clear hc1 hrs hr hrl hE CP hee hz
  go_wp2_with fail
  go_ret
  refine⟨⟨E,rfl⟩,S.B a,S.L a,?_,fun x=>?_,SameL.refl _⟩
  ·have:=HC1.out.turns
   have e:({S with M:=upd2 S.M a k (putM (S.M a k) o)}:HS).bk a (S.B a) (S.L a)={S with M:=upd2 S.M a k (putM (S.M a k) o)}:=HS.bk_same {S with M:=upd2 S.M a k (putM (S.M a k) o)} a
   rw[e]
   exact this
  ·rw[HR.out,HE.out.1]
   exact⟨fun h=>.inl h,fun h=>h.resolve_right (fun ⟨i,hi,_⟩=>absurd hi (Nat.not_lt_zero i))⟩
structure Hcells (P:Hp) (w:World):Prop where
 c0:w.cell? ⟨P.h,0,none⟩=some (.slice (some P.ta) P.T.length P.tc)
 c1:w.cell? ⟨P.h,1,none⟩=some (.int .i64 256)
 c2:w.cell? ⟨P.h,2,none⟩=some (.int .i64 P.na)
 c3:w.cell? ⟨P.h,3,none⟩=some (.int .i64 P.nt)
 c4:w.cell? ⟨P.h,4,none⟩=some (.int .i64 P.bud)
 c5:w.cell? ⟨P.h,5,none⟩=some (.int .i64 P.room)
 c6:w.cell? ⟨P.h,6,none⟩=some (.pointer (some ⟨P.sp,0,none⟩))
 c7:w.cell? ⟨P.h,7,none⟩=some (.slice (some ⟨P.gA,0,none⟩) P.na P.cA)
 c8:w.cell? ⟨P.h,8,none⟩=some (.slice (some ⟨P.gT,0,none⟩) P.nt P.cT)
 c9:w.cell? ⟨P.h,9,none⟩=some (.map (some P.gL))
theorem HSys.hcells {P:Hp} {S:HS} {w:World} {FP:List Nat} (h:HSys P S w FP):Hcells P w:=by
 obtain⟨f,h1,_⟩:=h.stat
 have b:=h1.blk
 exact⟨b.cell_ 0 rfl,b.cell_ 1 rfl,b.cell_ 2 rfl,b.cell_ 3 rfl,b.cell_ 4 rfl,b.cell_ 5 rfl,b.cell_ 6 rfl,b.cell_ 7 rfl,b.cell_ 8 rfl,b.cell_ 9 rfl⟩
theorem HSys.arp {P:Hp} {S:HS} {w:World} {FP:List Nat} (h:HSys P S w FP) {a:Nat} (ha:a<P.na):w.cell? ⟨P.gA,a,none⟩=some (.pointer (some ⟨P.ar a,0,none⟩)):=by
 obtain⟨f,h1,_⟩:=h.stat
 exact h1.ra.cell ha
theorem HSys.nums {P:Hp} {S:HS} {w:World} {FP:List Nat} (h:HSys P S w FP):1<=P.na/\P.na<=4/\1<=P.nt/\P.nt<=4/\P.na<=P.cA/\P.nt<=P.cT/\1<=P.T.length/\P.T.length<=40/\P.T.length<=P.tc:=by
 obtain⟨f,h1,_⟩:=h.stat
 exact⟨h1.na.1,h1.na.2,h1.nt.1,h1.nt.2,h1.cA,h1.cT,h1.isT.1,h1.isT.2.1,h1.tc⟩
theorem HSys.htab {P:Hp} {S:HS} {w:World} {FP:List Nat} (h:HSys P S w FP) {k:Nat} (hk:k<P.T.length):w.cell? (P.ta.add (k*3))=some (.int .i64 (Z.cAt P.T k).s)/\w.cell? ⟨(P.ta.add (k*3)).block,(P.ta.add (k*3)).off+1,none⟩=some (.int .i64 (Z.cAt P.T k).p)/\
 w.cell? ⟨(P.ta.add (k*3)).block,(P.ta.add (k*3)).off+2,none⟩=some (.int .i64 (Z.cAt P.T k).b)/\(Z.cAt P.T k).ok:=by
 obtain⟨f,h1,_⟩:=h.stat
 obtain⟨ad,e,c1,c2,c3⟩:=h1.tab.at_ hk
 injection e with e
 subst e
 exact⟨c1,c2,c3,(h1.isT.2.2 k hk).1⟩
theorem HSys.trow {P:Hp} {S:HS} {w:World} {FP:List Nat} (h:HSys P S w FP) {t:Nat} (ht:t<P.nt):w.cell? ⟨P.gT,t*3,none⟩=some (.pointer (some ⟨P.cq t,0,none⟩))/\w.cell? ⟨P.gT,t*3+1,none⟩=some (S.hv t)/\w.cell? ⟨P.gT,t*3+2,none⟩=some (S.ph t).val/\∀i,w.frozen? ⟨P.gT,i,none⟩=false:=by
 obtain⟨f,⟨h1,_⟩,_⟩:=h.turn .row
 have q0:=h1.cell (k:=t*3) (by omega)
 have q1:=h1.cell (k:=t*3+1) (by omega)
 have q2:=h1.cell (k:=t*3+2) (by omega)
 have e0:rowF P S.hv S.ph (t*3)=.pointer (some ⟨P.cq t,0,none⟩):=by
  unfold rowF
  rw[if_pos (by omega),show t*3/3=t by omega]
 have e1:rowF P S.hv S.ph (t*3+1)=S.hv t:=by
  unfold rowF
  rw[if_neg (by omega),if_pos (by omega),show(t*3+1)/3=t by omega]
 have e2:rowF P S.hv S.ph (t*3+2)=(S.ph t).val:=by
  unfold rowF
  rw[if_neg (by omega),if_neg (by omega),show(t*3+2)/3=t by omega]
 rw[e0] at q0
 rw[e1] at q1
 rw[e2] at q2
 exact⟨q0,q1,q2,fun i=>h1.frozen i⟩
theorem hmade2_at {P:Hp} {S:HS} {w:World} {FP:List Nat} (h:HSys P S w FP):Still Tryz.prog 30 #[.pointer (some ⟨P.h,0,none⟩)] w (.bool true):=by
 have z8:=h.hcells.c8
 obtain⟨_,_,n1,n2,_⟩:=h.nums
 clear h
 generalize P.nt=n at *
 have d1:decide ((0:Int)<n)=true:=decide_eq_true (by omega)
 have d1':decide (0<n)=true:=decide_eq_true (by omega)
 go_enter Tryz.func30,Tryz.ntmps30
 go_wp2_with fail
 go_ret
 exact⟨rfl,rfl⟩
theorem hthere_at {P:Hp} {S:HS} {w:World} {FP:List Nat} (h:HSys P S w FP) {t:Nat} (ht:t<P.nt):Still Tryz.prog 52 #[.pointer (some ⟨P.h,0,none⟩),.int .i64 t] w (.bool true):=by
 have z8:=h.hcells.c8
 obtain⟨_,_,n1,n2,_⟩:=h.nums
 clear h
 generalize P.nt=n at *
 have d1:decide ((0:Int)<=t)=true:=decide_eq_true (by omega)
 have d2:decide ((t:Int)<n)=true:=decide_eq_true (by omega)
 have d2':decide (t<n)=true:=decide_eq_true (by omega)
 go_enter Tryz.func52,Tryz.ntmps52
 go_wp2_with fail
 go_ret
 exact⟨rfl,rfl⟩
theorem hown_at {P:Hp} {S:HS} {w:World} {FP:List Nat} (h:HSys P S w FP) {t:Nat} (ht:t<P.nt):Still Tryz.prog 81 #[.pointer (some ⟨P.h,0,none⟩),.int .i64 t] w (.int .i64 ((t%P.na:Nat):Int)):=by
 have z7:=h.hcells.c7
 obtain⟨a1,a2,n1,n2,_⟩:=h.nums
 clear h
 generalize P.na=n at *
 have hq:(t:Int).tmod (n:Int)=((t%n:Nat):Int):=by rw[Int.tmod_eq_emod_of_nonneg (by omega)];rfl
 have hz:((n:Int)==0)=false:=beq_eq_false_iff_ne.2 (by omega)
 have hlt:=Nat.mod_lt t (show 0<n by omega)
 generalize t%n=r at *
 go_enter Tryz.func81,Tryz.ntmps81
 go_wp2_with fail
 go_ret
 exact⟨rfl,rfl⟩
theorem hspace_at {P:Hp} {S:HS} {w:World} {FP:List Nat} (h:HSys P S w FP):Still Tryz.prog 31 #[.pointer (some ⟨P.h,0,none⟩)] w (.pointer (some ⟨P.sp,0,none⟩)):=by
 have CM:=Lib.hid (hmade2_at h)
 have z6:=h.hcells.c6
 clear h
 go_enter Tryz.func31,Tryz.ntmps31
 go_wp2_with (first|(go_at_call 30;with_reducible refine Still.use CM.out ?_))
 go_ret
 exact⟨rfl,rfl⟩
theorem hconfig_at {P:Hp} {S:HS} {w:World} {FP:List Nat} (h:HSys P S w FP):Grew Tryz.prog 34 #[.pointer (some ⟨P.h,0,none⟩)] w (.agg #[.int .i64 256,.int .i64 P.na,.int .i64 P.nt,.int .i64 P.bud,.int .i64 P.room]):=by
 have ho:=(Only.refl [] w).alloc (.cells #[.int .i64 0,.int .i64 0,.int .i64 0,.int .i64 0,.int .i64 0] 27)
 have CM:=Lib.hid (hmade2_at (h.still ho))
 have HO:=Lib.hid ((Only.refl [] w).alloc (.cells #[.int .i64 256,.int .i64 P.na,.int .i64 P.nt,.int .i64 P.bud,.int .i64 P.room] 27))
 have hc:=(h.still ho).hcells
 have z1:=hc.c1
 have z2:=hc.c2
 have z3:=hc.c3
 have z4:=hc.c4
 have z5:=hc.c5
 clear h hc
 generalize (P.na:Int)=x1 at *
 generalize (P.nt:Int)=x2 at *
 generalize P.bud=x3 at *
 generalize P.room=x4 at *
 go_enter Tryz.func34,Tryz.ntmps34
 go_wp2_with (first|(go_at_call 30;with_reducible refine Still.use CM.out ?_))
 refine bodyPost_ret (v:=.agg #[.int .i64 256,.int .i64 x1,.int .i64 x2,.int .i64 x3,.int .i64 x4]) (by simp[results,Tryz.results34,go_sem]) rfl ?_
 exact⟨rfl,HO.out⟩
theorem results_pr {fn:Func} {t u:Tmp} (h:fn.results=#[.tmp t,.cell u 66]) {tmps:Array Value} {w:World} {b:Nat} {x y:Int} (hu:tmps.getD u undef=.pointer (some ⟨b,0,none⟩)) (h0:w.cell? ⟨b,0,none⟩=some (.int .i64 x)) (h1:w.cell? ⟨b,1,none⟩=some (.int .i64 y)):
 (results fn tmps).run Tryz.prog w=.ok (.tuple #[tmps.getD t undef,.agg #[.int .i64 x,.int .i64 y]]) w:=by
 have hu':tmps[u]?.getD undef=.pointer (some ⟨b,0,none⟩):=by simpa using hu
 simp[results,h,hu',go_sem,h0,h1]
end Go.Proofs.YtcidjimefnhacaaGreatDoor
