/- TopSchedules, a part of the proof: FB, FC, FD, FE. -/
import Derived.Test.YtcidjimefnhacaaGreatDoorM24
import Derived.Deep.RegionLawGrows
set_option linter.unusedVariables false
set_option linter.unusedSimpArgs false
namespace Go.Proofs.YtcidjimefnhacaaGreatDoor
open Go.RowKit
def Ownd (S:HS) (a:Nat) (page:Int):Prop:=0<=page/\page<256/\S.L a page.toNat≠0
theorem owner1_at {P:Hp} {S:HS} {w:World} {FP:List Nat} (h:HSys P S w FP) {a:Nat} (ha:a<P.na) {b:Nat} {addr:Int} (hb:w.cell? ⟨b,0,none⟩=some (.int .i64 addr)) (h0:0<=addr/\addr<65536):
 Still Tryz.prog 127 #[.pointer (some ⟨P.ar a,0,none⟩),.pointer (some ⟨b,0,none⟩)] w (.bool (decide (0<=addr/256/\addr/256<256/\S.L a (addr/256).toNat≠0))):=by
 have CO:=Lib.hid (aowns_at h ha (addr/256))
 have hq:addr.tdiv 256=addr/256:=Int.tdiv_eq_ediv_of_nonneg h0.1
 have hw:IntKind.i64.wrap (addr/256)=addr/256:=IntWalk.i64_in _ (by omega)
 clear h
 generalize decide (0<=addr/256/\addr/256<256/\S.L a (addr/256).toNat≠0)=r at *
 generalize addr/256=pg at *
 go_enter Tryz.func127,Tryz.ntmps127
 go_wp2_with (first|(go_at_call 128;with_reducible refine Still.use CO.out ?_))
 go_ret
 exact⟨rfl,rfl⟩
set_option maxHeartbeats 1000000 in
theorem ownerI_at {P:Hp} {S:HS} {w:World} {FP:List Nat} (h:HSys P S w FP) {b:Nat} {addr:Int} (hb:w.cell? ⟨b,0,none⟩=some (.int .i64 addr)) (h0:0<=addr/\addr<65536) (hex:∃a,a<P.na/\Ownd S a (addr/256)):
 Calls Tryz.prog 126 #[.slice (some ⟨P.gA,0,none⟩) P.na P.cA,.func (.func 127) #[] #[.pointer (some ⟨b,0,none⟩)]] w fun e w'=>w'=w/\∃a:Nat,a<P.na/\e=.returned (.int .i64 a):=by
 have HO:=Lib.hid (fun a (ha:a<P.na)=>owner1_at h ha hb h0)
 have HP:=Lib.hid (fun a (ha:a<P.na)=>h.arp ha)
 have HX:=Lib.hid hex
 obtain⟨n1,n2,_,_,n3,_⟩:=h.nums
 clear h hb hex
 generalize P.na=n at *
 go_enter Tryz.func126,Tryz.ntmps126
 go_wp2_with fail
 go_loopw[8] (fun t wr=>∃k:Nat,k<=n/\t=.int .i64 k/\wr=w/\Hid (∀a,a<k->¬Ownd S a (addr/256))) (fun t _=>n-(intOf t).toNat)
 case atStart=>exact⟨0,Nat.zero_le _,rfl,rfl,fun a ha=>absurd ha (Nat.not_lt_zero a)⟩
 case round=>
  obtain⟨k,hk,rfl,rfl,HN⟩:=hrel
  by_cases hlt:k<n
  ·have d1:decide ((k:Int)<n)=true:=decide_eq_true (by omega)
   have d1':decide (k<n)=true:=decide_eq_true hlt
   have c1:=HP.out k hlt
   have CO:=Lib.hid (HO.out k hlt)
   have HD:Hid (decide (0<=addr/256/\addr/256<256/\S.L k (addr/256).toNat≠0)=true↔Ownd S k (addr/256)):=decide_eq_true_iff
   generalize decide (0<=addr/256/\addr/256<256/\S.L k (addr/256).toNat≠0)=r at *
   cases r with
   |true=>
    go_wp2_with (first|(go_at_call 127;with_reducible refine Still.use CO.out ?_))
    go_ret
    exact⟨rfl,k,hlt,rfl⟩
   |false=>
    have HN2:Hid (∀a,a<k+1->¬Ownd S a (addr/256)):=fun a ha ho=>by
     rcases Nat.lt_or_ge a k with h|h
     ·exact HN.out a h ho
     ·have e:a=k:=by omega
      subst e
      exact absurd (HD.out.2 ho) (by decide)
    go_wp2_with (first|(go_at_call 127;with_reducible refine Still.use CO.out ?_))
    go_roundw
    case rel=>exact⟨k+1,by omega,by go_num,by first|trivial|rfl,HN2⟩
    case measure=>simp[intOf];omega
  ·exfalso
   obtain⟨a,ha,ho⟩:=HX.out
   exact HN.out a (by omega) ho
theorem howner_at {P:Hp} {S:HS} {w:World} {FP:List Nat} (h:HSys P S w FP) (addr:Int) (h0:0<=addr/\addr<65536) (hex:∃a,a<P.na/\Ownd S a (addr/256)):
 Calls Tryz.prog 103 #[.pointer (some ⟨P.h,0,none⟩),.int .i64 addr] w fun e w'=>Only [] w w'/\∃a:Nat,a<P.na/\e=.returned (.int .i64 a):=by
 have hoA:=(Only.refl [] w).alloc (.cells #[.int .i64 addr] 3)
 have h1:=h.still hoA
 have CI:=Lib.hid (ownerI_at h1 (b:=w.heap.size) ((Blk.new w 3 #[.int .i64 addr]).cell_ 0 rfl) h0 hex)
 have z7:=h1.hcells.c7
 have HO:=Lib.hid hoA
 have d1:decide (addr<0)=false:=decide_eq_false (by omega)
 clear h h1 hex hoA
 go_enter Tryz.func103,Tryz.ntmps103
 go_wp2_with fail
 refine CI.out.mono ?_
 rintro r w1 ⟨rfl,a,ha,rfl⟩
 clear CI
 go_wp2_with fail
 go_ret
 exact⟨HO.out,a,ha,rfl⟩
theorem und_mlb:Tryz.prog.underlying 88=some (.map 3 83):=by kernel_rfl
theorem zero_bk (W:World):(zeroValue 83).run Tryz.prog W=.ok (.agg #[.int .i64 0,.int .i64 0,.int .i64 0,.int .i64 0]) W:=by kernel_rfl
theorem HSys.live {P:Hp} {S:HS} {w:World} {FP:List Nat} (h:HSys P S w FP):∃c,IMap w P.gL (lvG S.lv) c:=by
 obtain⟨f,⟨h1,_⟩,_⟩:=h.turn .liv
 exact h1
theorem HSys.setLive {P:Hp} {S:HS} {w w':World} {FP:List Nat} (h:HSys P S w FP) {lv':Int->Option Bk} (ho:Only [P.gL] w w') {c:Nat} {G:Int->Option Value} (hI:IMap w' P.gL G c) (hG:∀j,G j=lvG lv' j):Turns (HSys P {S with lv:=lv'}) w FP w':=by
 obtain⟨f,⟨_,rfl⟩,_,hg⟩:=h.turns .liv
 exact hg _ w' (St_lv P S lv') ⟨ho,[P.gL],⟨⟨c,hI.ext hG⟩,rfl⟩,fun b hb=>.inl hb⟩
theorem HSys.neL {P:Hp} {S:HS} {w:World} {FP:List Nat} (h:HSys P S w FP):P.h≠P.gL:=by
 obtain⟨h1,h2,h4,fp,h5,h6,h7⟩:=h
 have a1:Hrec P w (fp .stat):=h5 .stat
 have a2:LivSt P.gL S.lv w (fp .liv):=h5 .liv
 intro e
 have:=h6 .stat .liv (by decide) P.h a1.mem.1
 rw[a2.2] at this
 exact this (by simp[e])
def lvPut (lv:Int->Option Bk) (addr:Int) (b:Bk):Int->Option Bk:=fun j=>if j=addr then some b else lv j
set_option maxHeartbeats 1000000 in
theorem hborn_at {P:Hp} {S:HS} {w:World} {FP:List Nat} (h:HSys P S w FP) (addr size cls:Int) (h0:0<=addr/\addr<65536) (hex:∃a,a<P.na/\Ownd S a (addr/256)):
 Calls Tryz.prog 83 #[.pointer (some ⟨P.h,0,none⟩),.int .i64 addr,.int .i64 size,.int .i64 cls] w fun e w'=>∃a:Nat,e=.returned (.tuple #[.nilIface,.agg #[.int .i64 addr,.int .i64 0]])/\a<P.na/\Turns (HSys P {S with lv:=lvPut S.lv addr ⟨size,cls,a⟩}) w FP w':=by
 have hctx:=(Ctx.start h).push NoL.framed #[.int .i64 0,.int .i64 0] 66
 have hctx:=hctx.still NoL.framed ((Only.refl [] (w.alloc (.cells #[.int .i64 0,.int .i64 0] 66))).drew)
 have hka:I64 addr:=by unfold I64;omega
 have CO:=Lib.hid (fun (W:World) (FPc:List Nat) (hs:HSys P S W FPc)=>howner_at hs addr h0 hex)
 have HB3:=Lib.hid h.big
 have z9:=hctx.sys_.elim (fun FPd hs=>hs.hcells.c9)
 have bx:=(hctx.box (x:=(w.heap.size,66,#[.int .i64 0,.int .i64 0])) (by simp))
 clear h hex
 go_enter Tryz.func83,Tryz.ntmps83
 go_wp2_with fail
 go_region_held3 (fun W=>W.cell? ⟨P.h,9,none⟩=some (.map (some P.gL)))
  (first|exact(hctx.sys_.elim (fun FPd hs=>hs.hcells.c9))|exact zE)
  (first
   |(go_at_call 103;with_reducible refine Calls.mono (hctx.sys_.elim (fun FPd hs=>CO.out _ FPd hs)) ?_;rintro _ wN ⟨hoN,a,ha,rfl⟩;replace hctx:=hctx.still NoL.framed hoN;obtain⟨cI,hI⟩:=hctx.sys_.elim (fun FPd hs=>hs.live);obtain⟨ob,hr,h1,h2⟩:=hI.put und_mlb hka (.agg #[.int .i64 addr,.int .i64 size,.int .i64 cls,.int .i64 a]);have zE:=hctx.sys_.elim (fun FPd hs=>(h2.cell (p:=⟨P.h,9,none⟩) (World.block_lt_of_cell? _ _ hs.hcells.c9) (by simpa using hs.neL)).trans hs.hcells.c9)))
 have hc2:Ctx P {S with lv:=lvPut S.lv addr ⟨size,cls,a⟩} w FP NoL [(w.heap.size,66,#[.int .i64 0,.int .i64 0])] _:=hctx.step NoL.framed (fun FPc hs=>hs.setLive h2 h1 (fun j=>by
  unfold lvG lvPut
  by_cases hj:j=addr
  ·simp[hj]
  ·simp[hj]))
 clear hctx h1 h2 hr hI zE CO z9 bx
 generalize ChangeMaps.setBlock wN P.gL ob=w2 at *
 have bx:=hc2.box (x:=(w.heap.size,66,#[.int .i64 0,.int .i64 0])) (by simp)
 have b0:=bx.cell_ 0 rfl
 have b1:=bx.cell_ 1 rfl
 have f0:=bx.frozen 0
 have f1:=bx.frozen 1
 have HC:=Lib.hid hc2
 have HA:=Lib.hid ha
 clear hc2 ha bx
 go_wp2_with fail
 have hc3:=(HC.out.setBox (by simp) (Nat.le_refl _) HB3.out 0 (.int .i64 addr)).setBox (by simp) (Nat.le_refl _) HB3.out 1 (.int .i64 0)
 have by_:=hc3.box (mcs ..)
 refine bodyPost_ret (results_pr rfl rfl (by_.cell_ 0 rfl) (by_.cell_ 1 rfl)) rfl ?_
 exact⟨rfl,a,HA.out,hc3.turns⟩
theorem hret_at {P:Hp} {S:HS} {w:World} {FP:List Nat} (h:HSys P S w FP) {t:Nat} (ht:t<P.nt):Still Tryz.prog 95 #[.pointer (some ⟨P.h,0,none⟩),.int .i64 t] w (if S.H t=[] then Ph.none.val else Ph.back.val):=by
 have z8:=h.hcells.c8
 have q1:=(h.trow ht).2.1
 obtain⟨_,_,n1,n2,_,n4,_⟩:=h.nums
 obtain⟨f,hf,_⟩:=h.turn (.han t)
 obtain⟨⟨A,c,fs,e1,e2,_⟩,_⟩:=hf.1 ht
 rw[e1] at q1
 have E:Hid (S.H t=[]↔(S.H t).length=0):=List.length_eq_zero_iff.symm
 clear h hf e1
 generalize P.nt=n at *
 by_cases hz:(S.H t).length=0
 ·rw[if_pos (E.out.2 hz)]
  rw[hz] at q1
  clear e2 hz
  go_enter Tryz.func95,Tryz.ntmps95
  go_wp2_with fail
  go_ret
  exact⟨rfl,rfl⟩
 ·rw[if_neg (fun e=>hz (E.out.1 e))]
  generalize (S.H t).length=m at *
  have hb:((m:Int)==0)=false:=beq_eq_false_iff_ne.2 (by omega)
  have hb':(m==0)=false:=beq_eq_false_iff_ne.2 hz
  clear E e2
  go_enter Tryz.func95,Tryz.ntmps95
  go_wp2_with fail
  go_ret
  exact⟨rfl,rfl⟩
theorem husable_at {P:Hp} {S:HS} {w:World} {FP:List Nat} (h:HSys P S w FP) {addr:Int} (ha:I64 addr) {b:Bk} (hb:S.lv addr=some b):Grew Tryz.prog 16 #[.pointer (some ⟨P.h,0,none⟩),.int .i64 addr] w (.tuple #[.int .i64 b.size,.int .i64 0]):=by
 have CM:=Lib.hid (hmade2_at h)
 have z9:=h.hcells.c9
 obtain⟨c,hI⟩:=h.live
 have HI:=Lib.hid hI
 have hG:Hid (lvG S.lv addr=some (.agg #[.int .i64 addr,.int .i64 b.size,.int .i64 b.cls,.int .i64 b.ar])):=(by unfold lvG;rw[hb];rfl:lvG S.lv addr=_)
 clear h hI hb
 go_enter Tryz.func16,Tryz.ntmps16
 go_wp2_with (first
  |(go_at_call 30;with_reducible refine Still.use CM.out ?_)
  |(at_lookup;refine wpList_lookOk rfl _ _ _ _ rfl und_mlb zero_bk rfl HI.out rfl ha ?_;rw[hG.out,Option.getD_some,Option.isSome_some]))
 go_ret2
 exact⟨rfl,(Only.refl [] w).alloc _⟩
theorem hread_at {P:Hp} {S:HS} {w:World} {FP:List Nat} (h:HSys P S w FP) (addr:Int) (ha:I64 addr):Grew Tryz.prog 17 #[.pointer (some ⟨P.h,0,none⟩),.int .i64 addr] w (.tuple #[.int .i64 (if S.sp.acc addr 1=0 then S.sp.h (addr/8) else 0),.int .i64 (S.sp.acc addr 1)]):=by
 have CS:=Lib.hid (hspace_at h)
 obtain⟨f,hf,_⟩:=h.turn .spc
 have CR:=Lib.hid (V.Read_any h.env hf addr ha)
 clear h hf
 generalize (if S.sp.acc addr 1=0 then S.sp.h (addr/8) else 0)=x at *
 generalize S.sp.acc addr 1=y at *
 go_enter Tryz.func17,Tryz.ntmps17
 go_wp2_with (first|(go_at_call 31;with_reducible refine Still.use CS.out ?_)|(go_at_call 32;with_reducible refine Grew.use CR.out (fun w1 ho1=>?_)))
 go_ret2
 exact⟨rfl,ho1⟩
theorem hwrite_at {P:Hp} {S:HS} {w:World} {FP:List Nat} (h:HSys P S w FP) (addr v:Int) (ha:I64 addr) (hv:I64 v):Calls Tryz.prog 80 #[.pointer (some ⟨P.h,0,none⟩),.int .i64 addr,.int .i64 v] w fun e w'=>e=.returned (.int .i64 (S.sp.acc addr 1))/\Turns (HSys P {S with sp:=S.sp.writeM addr v}) w FP w':=by
 have CS:=Lib.hid (hspace_at h)
 obtain⟨f,hf,_,hg⟩:=h.turns .spc
 have CW:=Lib.hid (V.Write_any h.env hf addr v ha hv)
 have HG:=Lib.hid hg
 clear h hf hg
 go_enter Tryz.func80,Tryz.ntmps80
 go_wp2_with (first|(go_at_call 31;with_reducible refine Still.use CS.out ?_))
 refine CW.out.mono ?_
 rintro r w1 ⟨rfl,ho,l',h1,h2⟩
 have HT:=Lib.hid (HG.out {S with sp:=S.sp.writeM addr v} w1 (St_sp P S _) ⟨ho,l',h1,h2⟩)
 clear CW ho h1 h2
 go_wp2_with fail
 go_ret
 exact⟨rfl,HT.out⟩
theorem Blk.setCells {w:World} {g:Nat} {t:TypeId} {cs:Array Value} (h:Blk w g t cs) (o:Nat) (vs:List Value) (hb:o+vs.length<=cs.size):∃cs',Blk (w.setCells g o vs) g t cs'/\cs'.size=cs.size/\(∀j,j<o->cs'[j]? =cs[j]?)/\(∀j x,vs[j]? =some x->cs'[o+j]? =some x)/\Only [g] w (w.setCells g o vs):=by
 induction vs generalizing w o cs with
 |nil=>exact⟨cs,h,rfl,fun _ _=>rfl,fun j x hx=>by simp at hx,Only.refl _ _⟩
 |cons v vs ih=>
  have hl:o<cs.size:=by simp at hb;omega
  obtain⟨cs',a1,a2,a3,a4,a5⟩:=ih (h.set_ o v) (o+1) (by simp at hb ⊢;omega)
  have oS:Only [g] w (w.setCell ⟨g,o,none⟩ v):=(Only.refl [g] w).setCell (p:=⟨g,o,none⟩) (.inl (by simp)) _
  refine⟨cs',a1,by simpa using a2,fun j hj=>?_,fun j x hx=>?_,oS.trans a5⟩
  ·rw[a3 j (by omega),Array.getElem?_setIfInBounds,if_neg (by omega)]
  ·cases j with
   |zero=>
    simp at hx
    subst hx
    rw[Nat.add_zero,a3 o (by omega),Array.getElem?_setIfInBounds,if_pos rfl,if_pos hl]
   |succ j=>
    have:=a4 j x (by simpa using hx)
    rwa[show o+1+j=o+(j+1) by omega] at this
def AtH (w:World) (A:Option Addr) (c:Nat) (xs:List Value) (ok:Nat->Prop):Prop:=∀b,A=some b->∃g off cs,b=⟨g,off,none⟩/\ok g/\Blk w g 205 cs/\off+2*c<=cs.size/\∀j x,xs[j]? =some x->cs[off+j]? =some x
structure AppH (w:World) (A:Option Addr) (n c m:Nat) (olds news:List Value) (A':Option Addr) (c':Nat) (w':World):Prop where
 only:∃l,Only l w w'/\∀g∈l,∃off,A=some ⟨g,off,none⟩
 le:n+m<=c'
 nn:A'=none->n+m=0/\c'=0
 at_:AtH w' A' c' (olds++news) (fun g=>(∃off,A=some ⟨g,off,none⟩)\/w.heap.size<=g)
theorem run_appH {w:World} (ty:TypeId) (A:Option Addr) (n c:Nat) (olds:List Value) (hA:A=none->n=0/\c=0) (hnc:n<=c) (hlo:olds.length=n*2) (hAt:AtH w A c olds (fun _=>True)) (B:Option Addr) (m cB:Nat) (news:List Value) (hB:0<m->∃ad,B=some ad/\∀j u,news[j]? =some u->w.cell? (ad.add j)=some u) (hn:news.length=m*2) (h1c:∀u∈news,u.oneCell'=true) (hb:n+m<=1000):
 ∃A' c' w',(Builtin.append_ #[114,114] ty #[.slice A n c,.slice B m cB]).run Tryz.prog w=.ok (.slice A' (n+m) c') w'/\AppH w A n c m olds news A' c' w':=by
 obtain⟨i0,hi,hz0,hz1,hz2⟩:=info_parts info_bt
 rcases Nat.eq_zero_or_pos m with hm|hm
 ·subst hm
  have e:news=[]:=List.eq_nil_of_length_eq_zero (by simpa using hn)
  subst e
  refine⟨A,c,w,run_append_zero 114 ty _ i0 Tryz.underlying114 hi A n c B cB hnc,⟨[],Only.refl _ _,by simp⟩,hnc,hA,fun b hb=>?_⟩
  obtain⟨g,off,cs,e1,_,e2,e3,e4⟩:=hAt b hb
  exact⟨g,off,cs,e1,.inl ⟨off,by rw[hb,e1]⟩,e2,e3,by simpa using e4⟩
 ·obtain⟨ad,rfl,hnews⟩:=hB hm
  have own:∀v' w',w'.ownsRow w.heap.size 205 2 v' (n+m) (olds++news)->w.grownBy w' none->∃A' c',v'=.slice A' (n+m) c'/\AppH w A n c m olds news A' c' w':=fun v' w' h1 h2=>by
   rcases h1.2 with ⟨_,h0⟩|⟨g,cap,cur,rfl,a1,a2,a3,a4,a5,a6⟩
   ·omega
   ·refine⟨_,cap,rfl,⟨[],(Only.refl [] w).grown h2 (fun k hk=>by cases hk),by simp⟩,a3,(fun e=>by cases e),fun b hb=>?_⟩
    injection hb with hb
    refine⟨g,0,cur,hb.symm,.inr a1,a2,by omega,fun j x hx=>?_⟩
    rw[<-a6,List.getElem?_take] at hx
    split at hx
    ·rw[Nat.zero_add,<-Array.getElem?_toList];exact hx
    ·cases hx
  cases A with
  |none=>
   obtain⟨rfl,rfl⟩:=hA rfl
   obtain rfl:olds=[]:=List.eq_nil_of_length_eq_zero (by simpa using hlo)
   obtain⟨v',w',hrun,r1,r2,_⟩:=run_append_own (P:=Tryz.prog) w w.heap.size 114 ty 205 i0 _ 2 32 Tryz.underlying114 hi hz0 hz1 hz2 rfl (by decide) (.slice none 0 0) 0 [] (World.ownsRow_nil w _ _ _) ad m cB news hn hnews h1c (by unfold maxLen;omega) (by omega) (Nat.le_refl _)
   obtain⟨A',c',rfl,h⟩:=own v' w' r1 r2
   exact⟨A',c',w',hrun,h⟩
  |some b=>
   obtain⟨g,off,cs,rfl,_,hBk,hsz,hcs⟩:=hAt b rfl
   have holds:∀j u,olds[j]? =some u->w.cell? ⟨g,off+j,none⟩=some u:=fun j u hu=>hBk.cell_ _ (hcs j u hu)
   by_cases hr:n+m<=c
   ·have hin:off+n*2+news.length<=cs.size:=by omega
    have hrun:=run_append_room_cells (P:=Tryz.prog) w 114 ty 205 i0 Tryz.underlying114 hi g off n c ad m cB news (by rw[hz1];exact hn) hnews h1c hr (fun j hj=>by
     rw[hz1]
     have:off+n*2+j<cs.size:=by omega
     rw[hBk.cell_ _ (Array.getElem?_eq_getElem this)];rfl) (fun j hj=>by exact hBk.frozen _)
    rw[hz1] at hrun
    obtain⟨cs',b1,b2,b3,b4,b5⟩:=hBk.setCells (off+n*2) news hin
    refine⟨_,c,_,hrun,⟨[g],b5,fun x hx=>⟨off,by simp at hx;rw[hx]⟩⟩,hr,(fun e=>by cases e),fun b hb=>?_⟩
    injection hb with hb
    refine⟨g,off,cs',hb.symm,.inl ⟨off,rfl⟩,b1,by omega,fun j x hx=>?_⟩
    rcases Nat.lt_or_ge j olds.length with h|h
    ·rw[List.getElem?_append_left h] at hx
     rw[b3 _ (by omega)]
     exact hcs j x hx
    ·rw[List.getElem?_append_right h] at hx
     have:=b4 _ x hx
     rwa[show off+n*2+(j-olds.length)=off+j by omega] at this
   ·obtain⟨v',w',hrun,r1,r2⟩:=run_append_arg_grows (P:=Tryz.prog) w 114 ty 205 i0 _ 2 32 Tryz.underlying114 hi hz0 hz1 hz2 rfl (by decide) ⟨g,off,none⟩ n c olds hlo (fun j u hj=>by rw[Addr.add_lit];exact holds j u hj) ad m cB news hn hnews (by omega) (by unfold maxLen;omega) (by omega)
    obtain⟨A',c',rfl,h⟩:=own v' w' r1 r2
    exact⟨A',c',w',hrun,h⟩
theorem step_appH {w:World} {ops:Array Oper} {o:Oper} {a:Act} {K:Act->World->Prop} {Q:Exit->Act->World->Prop} {E:Prop} (hg:o.guard=none) (s x:Operand)
 (hop:o.op=Op.call {callee:=Callee.builtin Builtin.append,args:=#[s,x],argTypes:=#[114,114]}) {A B:Option Addr} {n c m cB:Nat} {olds news:List Value} (hs:a.eval s=.slice A n c) (hx:a.eval x=.slice B m cB)
 (hA:A=none->n=0/\c=0) (hnc:n<=c) (hlo:olds.length=n*2) (hAt:AtH w A c olds (fun _=>True)) (hB:0<m->∃ad,B=some ad/\∀j u,news[j]? =some u->w.cell? (ad.add j)=some u) (hn:news.length=m*2) (h1c:∀u∈news,u.oneCell'=true) (hb:n+m<=1000)
 (hK:∀A' c' w',AppH w A n c m olds news A' c' w'->K (a.put o.dst (.slice A' (n+m) c')) w'):if Region.wanted o (yielded ops a.tmps)=true then Oper.wp Tryz.prog o a w K Q else E:=by
 have hw:Region.wanted o (yielded ops a.tmps)=true:=by simp[Region.wanted,hg]
 rw[if_pos hw]
 obtain⟨A',c',w',hrun,h⟩:=run_appH o.type A n c olds hA hnc hlo hAt B m cB news hB hn h1c hb
 unfold Oper.wp
 simp[execOp,hop,resolve,invoke,builtin,hs,hx,hrun,Result.andThen]
 exact hK _ _ _ h
namespace HaSt
variable {n:Nat} {v:Value} {L:List HB} {w w':World} {fp:List Nat}
theorem opened (h:HaSt n v L w fp):∃A c fs,v=.slice A L.length c/\L.length<=c/\(A=none->L.length=0/\c=0)/\HRow w L fs/\(∀b∈fs,b∈fp)/\AtH w A c (cellsH L) (fun g=>g∈fp/\g∉fs):=by
 obtain⟨A,c,fs,h1,h2,h3,h4,h5,h6⟩:=h.ex
 refine⟨A,c,fs,h1,h2,h3,h4,h5,fun b hb=>?_⟩
 obtain⟨g,off,cs,e1,e2,e3,e4,e5,e6⟩:=h6 b hb
 exact⟨g,off,cs,e1,⟨e2,e3⟩,e4,e5,e6⟩
theorem mk_ {A:Option Addr} {c:Nat} {fs:List Nat} (h1:v=.slice A L.length c) (h2:L.length<=c) (h3:A=none->L.length=0/\c=0) (h4:HRow w L fs) (h5:∀b∈fs,b∈fp) (h6:AtH w A c (cellsH L) (fun g=>g∈fp/\g∉fs)) (h7:∀b∈L,b.ok n) (h8:L.length<=100) (h9:∀b∈fp,b<w.heap.size) (h10:(L.map (fun b=>b.v.ownBlock)).Nodup):HaSt n v L w fp:=
 ⟨⟨A,c,fs,h1,h2,h3,h4,h5,fun b hb=>by obtain⟨g,off,cs,e1,⟨e2,e3⟩,e4,e5,e6⟩:=h6 b hb;exact⟨g,off,cs,e1,e2,e3,e4,e5,e6⟩⟩,h7,h8,h9,h10⟩
theorem of_own {base:Nat} {fs:List Nat} (h:w.ownsRow base 205 2 v L.length (cellsH L)) (hr:HRow w L fs) (hv:∀g,v.ownBlock=some g->g∉fs) (h7:∀b∈L,b.ok n) (h8:L.length<=100) (h9:∀b∈fs,b<w.heap.size) (h10:(L.map (fun b=>b.v.ownBlock)).Nodup):HaSt n v L w (v.ownBlock.toList++fs):=by
 have hl9:∀b∈v.ownBlock.toList++fs,b<w.heap.size:=fun b hb=>(List.mem_append.1 hb).elim (fun hb=>own_lt' h b (Option.mem_toList.1 hb)) (h9 b)
 rcases h.2 with ⟨rfl,h0⟩|⟨g,cap,cur,rfl,a1,a2,a3,a4,a5,a6⟩
 ·exact mk_ (fs:=fs) (A:=none) (c:=0) (by rw[h0]) (by omega) (fun _=>⟨h0,rfl⟩) hr (fun b hb=>List.mem_append_right _ hb) (fun b hb=>by cases hb) h7 h8 hl9 h10
 ·refine mk_ (fs:=fs) rfl a3 (fun e=>by cases e) hr (fun b hb=>List.mem_append_right _ hb) (fun b hb=>?_) h7 h8 hl9 h10
  injection hb with hb
  refine⟨g,0,cur,hb.symm,⟨by simp[Value.ownBlock],hv g rfl⟩,a2,by omega,fun j x hx=>?_⟩
  rw[<-a6,List.getElem?_take] at hx
  split at hx
  ·rw[Nat.zero_add,<-Array.getElem?_toList];exact hx
  ·cases hx
end HaSt
end Go.Proofs.YtcidjimefnhacaaGreatDoor
namespace Go.Proofs.YtcidjimefnhacaaGreatDoor
open Go.RowKit
def HS.hnd (S:HS) (t:Nat) (v:Value) (L:List HB):HS:={S with hv:=upd S.hv t v,H:=upd S.H t L}
theorem rowF_hv {P:Hp} {hv:Nat->Value} {ph:Nat->Ph} {t:Nat} {v:Value} (k:Nat):(if k=t*3+1 then v else rowF P hv ph k)=rowF P (upd hv t v) ph k:=by
 unfold rowF upd
 by_cases e:k=t*3+1
 ·rw[if_pos e,if_neg (by omega),if_pos (by omega),if_pos (by omega)]
 ·rw[if_neg e]
  by_cases h0:k%3=0
  ·rw[if_pos h0,if_pos h0]
  ·rw[if_neg h0,if_neg h0]
   by_cases h1:k%3=1
   ·rw[if_pos h1,if_pos h1,if_neg (by omega)]
   ·rw[if_neg h1,if_neg h1]
theorem HSys.hands {P:Hp} {S:HS} {w:World} {FP:List Nat} (h:HSys P S w FP) {t:Nat} (ht:t<P.nt):∃f,HaSt P.T.length (S.hv t) (S.H t) w f/\(∀b∈f,b∈FP)/\(P.gT∉f/\P.h∉f)/\P.gT∈FP/\∀v' L' w1 f',Only f w w1->HaSt P.T.length v' L' w1 f'->(∀b∈f',b∈f\/(b∉FP/\3<=b))->
 HSys P (S.hnd t v' L') (w1.setCell ⟨P.gT,t*3+1,none⟩ v') (FP.filter (fun b=>decide (b∉f))++f')/\Only (P.gT::f) w (w1.setCell ⟨P.gT,t*3+1,none⟩ v'):=by
 obtain⟨env,ge3,lt,fp,h5,h6,h7⟩:=h
 obtain⟨r1,r2⟩:RowSt P S.hv S.ph w (fp .row):=h5 .row
 have hgT:P.gT∈FP:=h7 .row P.gT (by rw[r2];simp)
 have hgf:P.gT∉fp (.han t):=fun hb=>h6 (.han t) .row (by simp) P.gT hb (by rw[r2];simp)
 have h3f:∀b∈fp (.han t),3<=b:=fun b hb=>ge3 b (h7 _ b hb)
 have hhf:P.h∉fp (.han t):=fun hb=>h6 .stat (.han t) (by simp) P.h (h5 .stat:Hrec P w (fp .stat)).mem.1 hb
 refine⟨fp (.han t),(h5 (.han t)).1 ht,h7 _,⟨hgf,hhf⟩,hgT,fun v' L' w1 f' ho hf hn=>?_⟩
 have o2:Only [P.gT] w1 (w1.setCell ⟨P.gT,t*3+1,none⟩ v'):=(Only.refl [P.gT] w1).setCell (p:=⟨P.gT,t*3+1,none⟩) (.inl (by simp)) _
 have oA:Only (P.gT::fp (.han t)) w (w1.setCell ⟨P.gT,t*3+1,none⟩ v'):=(ho.mono (fun b hb=>mcm _ hb)).then_ o2 (fun b hb=>.inl (by simp at hb;simp[hb]))
 have hgf':P.gT∉f':=fun hb=>(hn _ hb).elim hgf (fun h=>h.1 hgT)
 refine⟨⟨env.only oA (fun b hb=>?_),fun b hb=>?_,fun b hb=>?_,fun j=>if j=.han t then f' else fp j,fun j=>?_,fun j k hjk b hb=>?_,fun j b hb=>?_⟩,oA⟩
 ·rcases List.mem_cons.1 hb with rfl|hb
  ·exact ge3 _ hgT
  ·exact h3f b hb
 ·rcases List.mem_append.1 hb with h|h
  ·exact ge3 b (List.mem_filter.1 h).1
  ·exact(hn b h).elim (h3f b) (fun h=>h.2)
 ·rcases List.mem_append.1 hb with h|h
  ·exact Nat.lt_of_lt_of_le (lt b (List.mem_filter.1 h).1) oA.size
  ·exact Nat.lt_of_lt_of_le (hf.lt b h) o2.size
 ·show St P _ j _ (if j=.han t then f' else fp j)
  by_cases e:j=.han t
  ·subst e
   rw[if_pos rfl]
   refine gd.framed (HaSt.framed _ _ _) |>.only (⟨fun _=>?_,hf.lt⟩:gd (t<P.nt) (HaSt P.T.length (upd S.hv t v' t) (upd S.H t L' t)) w1 f') o2 (fun b hb=>by simp;exact fun e=>hgf' (e▸hb))
   rw[upd_at,upd_at];exact hf
  ·rw[if_neg e]
   by_cases er:j=.row
   ·subst er
    refine⟨((r1.only ho hgf).set_ (t*3+1) v').congr (fun k _=>rowF_hv k),r2⟩
   ·have eS:St P (S.hnd t v' L') j=St P S j:=by
     cases j with
     |han t'=>unfold HS.hnd;simp only[St];rw[upd_ne (fun e2=>e (by rw[e2])),upd_ne (fun e2=>e (by rw[e2]))]
     |row=>exact absurd rfl er
     |_=>rfl
    rw[eS]
    refine(St.framed P S j).only ((St.framed P S j).only (h5 j) ho (h6 j _ e)) o2 (fun b hb e2=>?_)
    simp at e2
    subst e2
    exact h6 j .row er _ hb (by rw[r2];simp)
 ·by_cases e1:j=.han t
  ·simp only[if_pos e1] at hb
   have e2:k≠ .han t:=fun e=>hjk (e1.trans e.symm)
   simp only[if_neg e2]
   intro hb2
   rcases hn b hb with h|h
   ·exact h6 (.han t) k (Ne.symm e2) b h hb2
   ·exact h.1 (h7 k b hb2)
  ·simp only[if_neg e1] at hb
   by_cases e2:k=.han t
   ·simp only[if_pos e2]
    intro hb2
    rcases hn b hb2 with h|h
    ·exact h6 j (.han t) e1 b hb h
    ·exact h.1 (h7 j b hb)
   ·simp only[if_neg e2]
    exact h6 j k hjk b hb
 ·by_cases e:j=.han t
  ·simp only[if_pos e] at hb
   exact List.mem_append_right _ hb
  ·simp only[if_neg e] at hb
   exact List.mem_append_left _ (List.mem_filter.2 ⟨h7 j b hb,decide_eq_true (h6 j _ e b hb)⟩)
theorem Ctx.hands {P:Hp} {Sc:HS} {w W:World} {FP:List Nat} {Ls:World->List Nat->Prop} {bx:List (Nat×TypeId×Array Value)} (F:Framed Ls) (h:Ctx P Sc w FP Ls bx W) {t:Nat} (ht:t<P.nt):∃f fs,HaSt P.T.length (Sc.hv t) (Sc.H t) W f/\Ls W fs/\(∀b∈fs,b∉f)/\(P.gT∉f/\P.h∉f)/\P.gT∉fs/\P.gT<W.heap.size/\
 ∀v' L' w1 f',Only f W w1->HaSt P.T.length v' L' w1 f'->(∀b∈f',b∈f\/b∈fs\/(W.heap.size<=b/\∀x∈bx,x.1≠b))->Ctx P (Sc.hnd t v' L') w FP NoL bx (w1.setCell ⟨P.gT,t*3+1,none⟩ v'):=by
 obtain⟨h0,h1,⟨FPc,fs,h2,h3,h4,h5,h6⟩,h7⟩:=h
 have h8:=h2.big
 obtain⟨f,hf,hff,g1,g2,hg⟩:=h2.hands ht
 refine⟨f,fs,hf,h3,fun b hb hb2=>(h5 b hb).2 (hff b hb2),g1,fun hb=>(h5 _ hb).2 g2,h2.lt _ g2,fun v' L' w1 f' ho hf' hn=>?_⟩
 have hn':∀b∈f',b∈f\/(b∉FPc/\3<=b):=fun b hb=>by
  rcases hn b hb with h|h|h
  ·exact .inl h
  ·exact .inr ⟨(h5 b h).2,(h5 b h).1.elim (h0.1 b) (fun h9=>Nat.le_trans h0.2 h9)⟩
  ·exact .inr ⟨fun h9=>by have:=h2.lt b h9;omega,by omega⟩
 obtain⟨k1,k2⟩:=hg v' L' w1 f' ho hf' hn'
 have k3:Only FPc W (w1.setCell ⟨P.gT,t*3+1,none⟩ v'):=k2.mono (fun b hb=>(List.mem_cons.1 hb).elim (fun e=>e▸g2) (hff b))
 refine⟨h0,h1.then_ k3 h4,⟨_,[],k1,rfl,fun b hb=>?_,(fun b hb=>by cases hb),fun x hx=>⟨fun hb=>?_,by simp⟩⟩,fun x hx=>(h7 x hx).only k3 (h6 x hx).1⟩
 ·rcases List.mem_append.1 hb with h|h
  ·exact h4 b (List.mem_filter.1 h).1
  ·rcases hn b h with h|h|h
   ·exact h4 b (hff b h)
   ·exact(h5 b h).1
   ·exact .inr (Nat.le_trans h1.size h.1)
 ·rcases List.mem_append.1 hb with h|h
  ·exact(h6 x hx).1 (List.mem_filter.1 h).1
  ·rcases hn _ h with h|h|h
   ·exact(h6 x hx).1 (hff _ h)
   ·exact(h6 x hx).2 h
   ·exact h.2 x hx rfl
theorem HaSt.uncons {n:Nat} {v:Value} {b:HB} {L:List HB} {w:World} {f:List Nat} (h:HaSt n v (b::L) w f):∃b0,b0∈f/\b.v.ownBlock=some b0/\OSt b.v b.o w [b0]/\∃g off c cs,v=.slice (some ⟨g,off,none⟩) (L.length+1) c/\L.length+1<=c/\Blk w g 205 cs/\cs[off]? =some (.int .i64 (b.k:Nat))/\cs[off+1]? =some b.v/\
 HaSt n (.slice (some ⟨g,off+2,none⟩) L.length (c-1)) L w (f.filter (fun x=>decide (x≠b0)))/\HaSt n (.slice none 0 0) [] w []:=by
 obtain⟨⟨A,c,fs,h1,h2,h3,h4,h5,h6⟩,h7,h8,h9,h10⟩:=h
 have hAn:∃a,A=some a:=by
  cases hA:A with
  |none=>have:=(h3 hA).1;simp at this
  |some a=>exact⟨a,rfl⟩
 obtain⟨a,rfl⟩:=hAn
 obtain⟨g,off,cs,e1,e2,e3,e4,e5,e6⟩:=h6 a rfl
 subst e1
 obtain⟨b0,hb0,hb1,hb2⟩:=(h4 b (by simp)).blk (h7 b (by simp)).l0
 have hne:g≠b0:=fun e=>e3 (e▸hb0)
 simp only[List.length_cons] at h1 h2 h8
 rw[List.map_cons,List.nodup_cons] at h10
 have hfs:∀x∈L,∃c0,x.v.ownBlock=some c0/\c0∈fs/\c0≠b0/\OSl w x.v [c0] x.o:=fun x hx=>by
  obtain⟨c0,hc0,hc1,hc2⟩:=(h4 x (mcm _ hx)).blk (h7 x (mcm _ hx)).l0
  refine⟨c0,hc1,hc0,fun e=>?_,hc2⟩
  exact h10.1 (List.mem_map.2 ⟨x,hx,by rw[hc1,hb1,e]⟩)
 refine⟨b0,h5 b0 hb0,hb1,⟨hb2,fun x hx=>by simp at hx;subst hx;exact h9 _ (h5 _ hb0)⟩,g,off,c,cs,h1,h2,e4,e6 0 _ rfl,e6 1 _ rfl,?_,HaSt.nil n w⟩
 refine⟨⟨some ⟨g,off+2,none⟩,c-1,fs.filter (fun x=>decide (x≠b0)),rfl,by omega,(fun e=>by cases e),fun x hx=>?_,fun x hx=>?_,fun a ha=>?_⟩,fun x hx=>h7 x (mcm _ hx),by omega,fun x hx=>h9 x (List.mem_filter.1 hx).1,h10.2⟩
 ·obtain⟨c0,q1,q2,q3,q4⟩:=hfs x hx
  exact q4.mono (fun y hy=>by simp at hy;subst hy;exact List.mem_filter.2 ⟨q2,decide_eq_true q3⟩)
 ·obtain⟨q1,q2⟩:=List.mem_filter.1 hx
  exact List.mem_filter.2 ⟨h5 x q1,q2⟩
 ·injection ha with ha
  refine⟨g,off+2,cs,ha.symm,List.mem_filter.2 ⟨e2,decide_eq_true hne⟩,fun h=>e3 (List.mem_filter.1 h).1,e4,by omega,fun j x hx=>?_⟩
  have:=e6 (j+2) x (by
   have e:cellsH (b::L)=.int .i64 (b.k:Nat)::b.v::cellsH L:=rfl
   rw[e]
   simpa using hx)
  rwa[show off+(j+2)=off+2+j by omega] at this
theorem Ctx.handsG {P:Hp} {Sc:HS} {w W:World} {FP:List Nat} {bx:List (Nat×TypeId×Array Value)} {Sn:World->List Nat->Prop} (FN:Framed Sn) (h:Ctx P Sc w FP NoL bx W) {t:Nat} (ht:t<P.nt):∃f,HaSt P.T.length (Sc.hv t) (Sc.H t) W f/\(P.gT∉f/\P.h∉f)/\P.gT<W.heap.size/\
 ∀v' L' w1 f' fs',Only f W w1->HaSt P.T.length v' L' w1 f'->(∀b∈f',b∈f\/(W.heap.size<=b/\∀x∈bx,x.1≠b))->Sn w1 fs'->(∀b∈fs',b∈f/\b∉f')->Ctx P (Sc.hnd t v' L') w FP Sn bx (w1.setCell ⟨P.gT,t*3+1,none⟩ v'):=by
 obtain⟨h0,h1,⟨FPc,fs,h2,rfl,h4,h5,h6⟩,h7⟩:=h
 have h8:=h2.big
 obtain⟨f,hf,hff,⟨g1,g3⟩,g2,hg⟩:=h2.hands ht
 refine⟨f,hf,⟨g1,g3⟩,h2.lt _ g2,fun v' L' w1 f' fs' ho hf' hn hSn hm=>?_⟩
 have hn':∀b∈f',b∈f\/(b∉FPc/\3<=b):=fun b hb=>by
  rcases hn b hb with h|h
  ·exact .inl h
  ·exact .inr ⟨fun h9=>by have:=h2.lt b h9;omega,by omega⟩
 obtain⟨k1,k2⟩:=hg v' L' w1 f' ho hf' hn'
 have k3:Only FPc W (w1.setCell ⟨P.gT,t*3+1,none⟩ v'):=k2.mono (fun b hb=>(List.mem_cons.1 hb).elim (fun e=>e▸g2) (hff b))
 have o2:Only [P.gT] w1 (w1.setCell ⟨P.gT,t*3+1,none⟩ v'):=(Only.refl [P.gT] w1).setCell (p:=⟨P.gT,t*3+1,none⟩) (.inl (by simp)) _
 refine⟨h0,h1.then_ k3 h4,⟨_,fs',k1,FN.only hSn o2 (fun b hb e=>by simp at e;subst e;exact g1 (hm _ hb).1),fun b hb=>?_,fun b hb=>⟨h4 b (hff b (hm b hb).1),fun hb2=>?_⟩,fun x hx=>⟨fun hb=>?_,fun hb=>(h6 x hx).1 (hff _ (hm _ hb).1)⟩⟩,fun x hx=>(h7 x hx).only k3 (h6 x hx).1⟩
 ·rcases List.mem_append.1 hb with h|h
  ·exact h4 b (List.mem_filter.1 h).1
  ·rcases hn b h with h|h
   ·exact h4 b (hff b h)
   ·exact .inr (Nat.le_trans h1.size h.1)
 ·rcases List.mem_append.1 hb2 with h|h
  ·exact of_decide_eq_true (List.mem_filter.1 h).2 (hm b hb).1
  ·exact(hm b hb).2 h
 ·rcases List.mem_append.1 hb with h|h
  ·exact(h6 x hx).1 (List.mem_filter.1 h).1
  ·rcases hn _ h with h|h
   ·exact(h6 x hx).1 (hff _ h)
   ·exact h.2 x hx rfl
theorem HaSt.app {n:Nat} {L Lb:List HB} {w w':World} {f fs fsH:List Nat} {A A':Option Addr} {c c' m:Nat} (hA:AtH w A c (cellsH L) (fun g=>g∈f/\g∉fsH)) (hr:HRow w L fsH) (hf:∀b∈fsH,b∈f) (hb:HRow w Lb fs) (hd:∀b∈fs,b∉f) (hlf:∀b∈f,b<w.heap.size) (hls:∀b∈fs,b<w.heap.size) (h:AppH w A L.length c m (cellsH L) (cellsH Lb) A' c' w') (hm:m=Lb.length)
 (ok:∀b∈L++Lb,b.ok n) (ln:L.length+m<=100) (nd:(L.map (fun b=>b.v.ownBlock)).Nodup) (nd2:(Lb.map (fun b=>b.v.ownBlock)).Nodup):∃f',HaSt n (.slice A' (L.length+m) c') (L++Lb) w' f'/\(∀b∈f',b∈f\/b∈fs\/w.heap.size<=b)/\Only f w w':=by
 obtain⟨⟨l,ho,hl⟩,h2,h3,h4⟩:=h
 have hlA:∀g off,A=some ⟨g,off,none⟩->g∈f/\g∉fsH:=fun g off e=>by
  obtain⟨g',off',cs,e1,e2,_⟩:=hA _ e
  injection e1 with e1 _ _
  subst e1
  exact e2
 have hl2:∀g∈l,g∈f/\g∉fsH:=fun g hg=>by obtain⟨off,e⟩:=hl g hg;exact hlA g off e
 have e0:L.length+m=(L++Lb).length:=by rw[List.length_append,hm]
 refine⟨f++(fs++(A'.map (·.block)).toList.filter (fun b=>decide (w.heap.size<=b))),HaSt.mk_ (A:=A') (c:=c') (fs:=fsH++fs) (by rw[e0]) (by rw[<-e0];exact h2) (fun e=>by rw[<-e0];exact h3 e) ?_ ?_ ?_ ok (by rw[<-e0];exact ln) ?_ ?_,?_,ho.mono (fun g hg=>(hl2 g hg).1)⟩
 ·refine HRow.append ((hr.only ho (fun b hb hb2=>(hl2 b hb2).2 hb)).mono (fun b hb=>List.mem_append_left _ hb)) ((hb.only ho (fun b hb hb2=>hd b hb (hl2 b hb2).1)).mono (fun b hb=>List.mem_append_right _ hb))
 ·intro b hb
  rcases List.mem_append.1 hb with h|h
  ·exact List.mem_append_left _ (hf b h)
  ·exact List.mem_append_right _ (List.mem_append_left _ h)
 ·rw[cellsH_append]
  intro b hb
  obtain⟨g,off,cs,e1,e2,e3⟩:=h4 b hb
  refine⟨g,off,cs,e1,?_,e3⟩
  rcases e2 with ⟨off',e⟩|e
  ·obtain⟨k1,k2⟩:=hlA g off' e
   exact⟨List.mem_append_left _ k1,fun h=>(List.mem_append.1 h).elim k2 (fun h=>hd g h k1)⟩
  ·refine⟨List.mem_append_right _ (List.mem_append_right _ (List.mem_filter.2 ⟨by rw[hb,e1];simp,decide_eq_true e⟩)),fun h=>?_⟩
   rcases List.mem_append.1 h with h|h
   ·have:=hlf g (hf g h);omega
   ·have:=hls g h;omega
 ·intro b hb
  rcases List.mem_append.1 hb with h|h
  ·exact Nat.lt_of_lt_of_le (hlf b h) ho.size
  ·rcases List.mem_append.1 h with h|h
   ·exact Nat.lt_of_lt_of_le (hls b h) ho.size
   ·have hbA:=(List.mem_filter.1 h).1
    cases hA':A' with
    |none=>rw[hA'] at hbA;cases hbA
    |some a=>
     rw[hA'] at hbA
     obtain⟨g,off,cs,e1,_,e3,_⟩:=h4 a hA'
     simp at hbA
     rw[e1] at hbA
     subst hbA
     exact e3.lt
 ·rw[List.map_append,List.nodup_append]
  refine⟨nd,nd2,fun x hx y hy e=>?_⟩
  obtain⟨c,hc,rfl⟩:=List.mem_map.1 hx
  obtain⟨d,hd',rfl⟩:=List.mem_map.1 hy
  obtain⟨c1,hc1,hc2,_⟩:=(hr c hc).blk (ok c (List.mem_append_left _ hc)).l0
  obtain⟨d1,hd1,hd2,_⟩:=(hb d hd').blk (ok d (List.mem_append_right _ hd')).l0
  rw[hc2,hd2] at e
  injection e with e
  subst e
  exact hd c1 hd1 (hf c1 hc1)
 ·intro b hb
  rcases List.mem_append.1 hb with h|h
  ·exact .inl h
  ·rcases List.mem_append.1 h with h|h
   ·exact .inr (.inl h)
   ·exact .inr (.inr (of_decide_eq_true (List.mem_filter.1 h).2))
end Go.Proofs.YtcidjimefnhacaaGreatDoor
