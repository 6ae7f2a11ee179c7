/- TopSchedules, a part of the proof: VE, VF, VG, VH. -/
import Derived.Test.YtcidjimefnhacaaGreatDoorM04
set_option linter.unusedVariables false
set_option linter.unusedSimpArgs false
namespace Go.Proofs.YtcidjimefnhacaaGreatDoor.V
open Go.RowKit
open Go.ChangeMaps Go.Maps
theorem only_setBlock {w w':World} {l:List Nat} {b:Nat} {o:Obj} {es:Array MapEntry} {clock:Nat} (ho:Only l w w') (hb:w'.heap[b]? =some (.map es clock)) (hl:b∈l):Only l w (setBlock w' b o):=
 ⟨ho.os,ho.tape,ho.output,by have:=ho.size;simpa[setBlock] using this,fun i hi hn=>(heap_setBlock_other hb _ (fun e=>hn (by rw[e];exact hl))).trans (ho.block i hi hn)⟩
theorem SpM.setR_zero (m:SpM) (a v:Int):m.setR a 0 v=m:=by
 unfold SpM.setR
 have h1:(fun i=>if a<=i/\i<a+0 then v else m.st i)=m.st:=by funext i;rw[if_neg (by omega)]
 have h2:(fun j=>if a<=j/32/\j/32<a+0 then 0 else m.h j)=m.h:=by funext j;rw[if_neg (by omega)]
 rw[h1,h2]
theorem SpM.setR_succ (m:SpM) (a v:Int) (k:Nat):(m.setR a k v).setR (a+k) 1 v=m.setR a ((k:Int)+1) v:=by
 unfold SpM.setR
 dsimp only
 congr 1
 ·funext i
  by_cases h:i=a+k
  ·rw[if_pos (by omega),if_pos (by omega)]
  ·rw[if_neg (by omega)]
   by_cases h2:a<=i/\i<a+k
   ·rw[if_pos h2,if_pos (by omega)]
   ·rw[if_neg h2,if_neg (by omega)]
 ·funext j
  by_cases h:j/32=a+k
  ·rw[if_pos (by omega),if_pos (by omega)]
  ·rw[if_neg (by omega)]
   by_cases h2:a<=j/32/\j/32<a+k
   ·rw[if_pos h2,if_pos (by omega)]
   ·rw[if_neg h2,if_neg (by omega)]
theorem Parts.set1 {w w1 w2:World} {p:Nat} {l:List Nat} {m:SpM} {gp cap gm:Nat} {G:Int->Option Nat} (h:Parts w p l m gp cap gm G) (hg:m.good) {i:Nat} (hi:i<m.n) {v:Int} (hv:v=0\/v=1)
 (hw1:Only [gp] w w1) (hr:Row w1 gp (2*m.n) (pcell (m.setR i 1 v).st)) (hw2:Only [gm] w1 w2)
 (hD:Dict w2 gm (fun j=>if j=(i:Int) then none else G j) (if(G i).isSome then m.dirty-1 else m.dirty)):
 (m.setR i 1 v).good/\Parts w2 p l (m.setR i 1 v) gp cap gm (fun j=>if j=(i:Int) then none else G j):=by
 obtain⟨a1,a2,a3,a4,a5,a6,b1,b2,b3,b4,b5,b6,b7⟩:=h
 have hst:∀j:Int,(m.setR i 1 v).st j=if j=(i:Int) then v else m.st j:=fun j=>by
  show(if(i:Int)<=j/\j<(i:Int)+1 then v else m.st j)=_
  by_cases e:j=i
  ·rw[if_pos e,if_pos (by omega)]
  ·rw[if_neg e,if_neg (by omega)]
 have hh:∀j:Int,(m.setR i 1 v).h j=if j/32=(i:Int) then 0 else m.h j:=fun j=>by
  show(if(i:Int)<=j/32/\j/32<(i:Int)+1 then 0 else m.h j)=_
  by_cases e:j/32=i
  ·rw[if_pos e,if_pos (by omega)]
  ·rw[if_neg e,if_neg (by omega)]
 have hsome:(G i).isSome=true↔m.st i=2:=by
  constructor
  ·intro e
   obtain⟨g,hg'⟩:=Option.isSome_iff_exists.1 e
   exact(b5 _ _ hg').1.2.2
  ·intro e
   obtain⟨g,hg'⟩:=b6 i (by omega) (by omega) e
   rw[hg']
   rfl
 have hd:(m.setR i 1 v).dirty=if(G i).isSome then m.dirty-1 else m.dirty:=by
  have h1:=cntTo_set m.st 2 v i m.n hi
  have h2:(m.setR i 1 v).dirty=cntTo (fun j=>if j=(i:Int) then v else m.st j) 2 m.n:=by
   unfold SpM.dirty
   rw[show(m.setR i 1 v).st=fun j=>if j=(i:Int) then v else m.st j from funext hst]
   rfl
  rw[h2]
  have h3:m.dirty=cntTo m.st 2 m.n:=rfl
  rw[h3]
  rw[if_neg (show ¬v=2 by omega)] at h1
  by_cases e:m.st i=2
  ·rw[if_pos e] at h1
   rw[if_pos (hsome.2 e)]
   omega
  ·rw[if_neg e] at h1
   rw[if_neg (fun e'=>e (hsome.1 e'))]
   omega
 have hle:(m.setR i 1 v).dirty<=m.dirty:=by rw[hd];split<;>omega
 refine⟨⟨hg.n1,hg.n2,fun j=>?_,fun j hj=>?_,fun j=>?_,?_,hg.p1⟩,⟨a1,a2,a3,a4,a5,a6,?_,b2,hr.only hw2 (by simp;exact a6),by rw[hd];exact hD,?_,?_,?_⟩⟩
 ·rw[hst]
  split
  ·omega
  ·exact hg.s1 j
 ·rw[hh]
  rw[hst] at hj
  split
  ·rfl
  ·rename_i e
   rw[if_neg e] at hj
   exact hg.h0 j hj
 ·rw[hh]
  split
  ·unfold I64;omega
  ·exact hg.h1 j
 ·have:((m.setR i 1 v).pk)=m.pk:=rfl
  have:=hg.p0
  omega
 ·exact(b1.only hw1 (by simp;exact a4)).only hw2 (by simp;exact a5)
 ·intro j g hj
  by_cases e:j=(i:Int)
  ·rw[if_pos e] at hj;cases hj
  ·rw[if_neg e] at hj
   obtain⟨c1,c2,c3,c4,c5,c6⟩:=b5 j g hj
   refine⟨⟨c1.1,c1.2.1,by rw[hst,if_neg e];exact c1.2.2⟩,c2,c3,c4,c5,((c6.only hw1 (by simp;exact c4)).only hw2 (by simp;exact c5)).congr fun k hk=>?_⟩
   rw[hh,if_neg (by omega)]
 ·intro j h1 h2 h3
  rw[hst] at h3
  by_cases e:j=(i:Int)
  ·rw[if_pos e] at h3;omega
  ·rw[if_neg e] at h3
   obtain⟨g,hg'⟩:=b6 j h1 h2 h3
   exact⟨g,by rw[if_neg e];exact hg'⟩
 ·intro j j' g h1 h2
  by_cases e:j=(i:Int)
  ·rw[if_pos e] at h1;cases h1
  ·by_cases e':j'=(i:Int)
   ·rw[if_pos e'] at h2;cases h2
   ·rw[if_neg e] at h1
    rw[if_neg e'] at h2
    exact b7 j j' g h1 h2
theorem Row.page {w:World} {gp n:Nat} {st st':Int->Int} (h:Row w gp (2*n) (pcell st)) (i:Nat) (x y:Bool) (hx:(st' i != 0)=x) (hy:(st' i==2)=y) (hst:∀j:Int,j≠(i:Int)->st' j=st j):
 Row ((w.setCell ⟨gp,i*2,none⟩ (.bool x)).setCell ⟨gp,i*2+1,none⟩ (.bool y)) gp (2*n) (pcell st'):=by
 refine((h.set_ (i*2) (.bool x)).set_ (i*2+1) (.bool y)).congr fun k hk=>?_
 by_cases e1:k=i*2+1
 ·rw[if_pos e1,e1]
  unfold pcell
  rw[if_neg (by omega),show(i*2+1)/2=i by omega,hy]
 ·rw[if_neg e1]
  by_cases e2:k=i*2
  ·rw[if_pos e2,e2]
   unfold pcell
   rw[if_pos (by omega),show(i*2)/2=i by omega,hx]
  ·rw[if_neg e2]
   unfold pcell
   rw[hst _ (by omega)]
theorem wpList_del {w:World} {ops:Array Oper} {rest:List Oper} {o:Oper} {a:Act} {Q:Exit->Act->World->Prop} (hg:o.guard=none) (m x:Operand)
 (hop:o.op=Op.call {callee:=Callee.builtin Builtin.delete,args:=#[m,x],argTypes:=#[128,3]}) (b c:Nat) (G:Int->Option Nat) (hm:a.eval m=.map (some b)) (hD:Dict w b G c)
 (k:Int) (hk:I64 k) (hx:a.eval x=.int .i64 k)
 (hK:∀w',Only [b] w w'->Dict w' b (fun j=>if j=k then none else G j) (if(G k).isSome then c-1 else c)->wpList Tryz.prog ops Q rest (a.put o.dst (.tuple #[])) w'):wpList Tryz.prog ops Q (o::rest) a w:=by
 refine wpList_plain hg fun K' hK'=>?_
 obtain⟨ob,hrun,hD'⟩:=hD.del hk o.type
 obtain⟨es,clock,hb,_⟩:=hD
 unfold Oper.wp
 simp[execOp,hop,resolve,invoke,builtin,hm,hx,hrun,Result.andThen]
 exact hK' _ _ (hK _ (only_setBlock (Only.refl [b] w) hb (by simp)) hD')
set_option maxHeartbeats 1600000 in
theorem set_any {w:World} {p:Nat} {l:List Nat} {m:SpM} (h:SpaceAt w p l m) (a b v:Int) (hv:v=0\/v=1) (hin:m.inR a b):
 Calls Tryz.prog 189 #[.pointer (some ⟨p,0,none⟩),.int .i64 a,.int .i64 b,.agg #[.bool (v != 0),.bool false]] w fun e w'=>e=.returned (.tuple #[])/\Only l w w'/\SpaceAt w' p l (m.setR a b v):=by
 obtain⟨i1,i2,i3,i4⟩:=hin
 have hn2:=h.good.n2
 have ho0:=(Only.refl [] w).alloc (.cells #[.bool (v != 0),.bool false] 156)
 have bT:=Blk.new w 156 #[.bool (v != 0),.bool false]
 have HS:=Lib.hid (h.still ho0)
 generalize hx:(v != 0)=x at *
 go_enter Tryz.func189,Tryz.ntmps189
 go_wp2_with fail
 generalize w.alloc (.cells #[.bool x,.bool false] 156)=w0 at *
 go_loopw[8] (fun t wr=>∃k:Nat,(k:Int)<=b/\t=.int .i64 (a+k)/\Only l w0 wr/\Blk wr w.heap.size 156 #[.bool x,.bool false]/\SpaceAt wr p l (m.setR a k v)) (fun t _=>(a+b).toNat -(intOf t).toNat)
 case atStart=>exact⟨0,by omega,by simp,Only.refl _ _,bT,by rw[Int.ofNat_zero,SpM.setR_zero];exact HS.out⟩
 case round=>
  obtain⟨k,hk,rfl,ho,bK,hsp⟩:=hrel
  by_cases hlt:(k:Int)<b
  ·have d1:decide (a+k<a+b)=true:=decide_eq_true (by omega)
   obtain⟨hg,h3,h4,gp,cap,gm,G,hp⟩:=hsp
   have HPP:=Lib.hid hp
   obtain⟨a1,a2,a3,a4,a5,a6,b1,b2,b3,b4,b5,b6,b7⟩:=hp
   have hmn:(m.setR a k v).n=m.n:=rfl
   rw[hmn] at b1 b2
   obtain⟨i,hi⟩:∃i:Nat,a+k=i:=⟨(a+k).toNat,by omega⟩
   rw[hi] at d1 ⊢
   have hin2:i<m.n:=by omega
   have HL:Hid (w.heap.size∉l):=fun hb=>by have:=h.lt _ hb;omega
   have z0:=b1.cell_ 0 rfl
   have z1:=b1.cell_ 1 rfl
   have y0:=bK.cell_ 0 rfl
   have y1:=bK.cell_ 1 rfl
   have x0:=b3.cell (k:=2*i) (by rw[hmn];omega)
   have x1:=b3.cell (k:=2*i+1) (by rw[hmn];omega)
   have f0:=b3.frozen (i*2)
   have f1:=b3.frozen (i*2+1)
   rw[Nat.mul_comm 2 i] at x0 x1
   generalize pcell (m.setR a k v).st (i*2)=X0 at x0
   generalize pcell (m.setR a k v).st (i*2+1)=X1 at x1
   have hst:=fun j:Int=>congrFun (congrArg SpM.st (SpM.setR_succ m a v k)) j
   have hsu:=SpM.setR_succ m a v k
   rw[hi] at hsu
   have HB4:=Lib.hid b4
   have HG:=Lib.hid hg
   have HROW:=Lib.hid (b3.page (st':=((m.setR a k v).setR i 1 v).st) i x false (by
    show((if(i:Int)<=i/\(i:Int)<i+1 then v else _) != 0)=x;rw[if_pos (by omega)];exact hx) (by
    show((if(i:Int)<=i/\(i:Int)<i+1 then v else _)==2)=false;rw[if_pos (by omega)];exact beq_eq_false_iff_ne.2 (by omega)) (fun j hj=>by
    show(if(i:Int)<=j/\j<i+1 then v else _)=_;rw[if_neg (by omega)]))
   generalize (m.setR a k v).pk=pk at z0 z1
   have HBK:=Lib.hid bK
   clear b1 hg b3 b4 b5 b6 b7 hst bK
   go_wp2_with fail
   go_region
   have ho1:Only [gp] wr ((wr.setCell ⟨gp,i*2,none⟩ (.bool x)).setCell ⟨gp,i*2+1,none⟩ (.bool false)).drew:=(((Only.refl [gp] wr).setCell (p:=⟨gp,i*2,none⟩) (.inl (by simp)) _).setCell (p:=⟨gp,i*2+1,none⟩) (.inl (by simp)) _).drew
   have hrow:Row ((wr.setCell ⟨gp,i*2,none⟩ (.bool x)).setCell ⟨gp,i*2+1,none⟩ (.bool false)).drew gp (2*m.n) (pcell ((m.setR a k v).setR i 1 v).st):=HROW.out
   generalize ((wr.setCell ⟨gp,i*2,none⟩ (.bool x)).setCell ⟨gp,i*2+1,none⟩ (.bool false)).drew=w1 at *
   have z1':=(ho1.cell (World.block_lt_of_cell? wr _ z1) (by simpa using a4)).trans z1
   have hD1:=HB4.out.only ho1 (by simpa using a6.symm)
   clear z0 z1 x0 x1 f0 f1 y0 y1
   go_wp2_with (first|(at_delete;refine wpList_del rfl _ _ rfl gm _ G rfl hD1 (i:Int) (by unfold I64;omega) rfl ?_;intro w2 ho2 hD2))
   go_roundw
   case rel=>
    obtain⟨hg2,hp2⟩:=HPP.out.set1 HG.out (by rw[hmn];exact hin2) hv ho1 hrow ho2 hD2
    rw[hsu] at hg2 hp2
    refine⟨k+1,by omega,by go_num,(ho.then_ ho1 (by simpa using .inl a2)).then_ ho2 (by simpa using .inl a3),?_,hg2,h3,fun b hb=>Nat.lt_of_lt_of_le (h4 b hb) (Nat.le_trans ho1.size ho2.size),gp,cap,gm,_,hp2⟩
    exact(HBK.out.only ho1 (by simp;exact fun e=>HL.out (by rw[e];exact a2))).only ho2 (by simp;exact fun e=>HL.out (by rw[e];exact a3))
   case measure=>simp[intOf];omega
  ·have e:(k:Int)=b:=by omega
   have d1:decide (a+k<a+b)=false:=decide_eq_false (by omega)
   rw[e] at hsp
   go_wp2_with fail
   go_end0
   exact⟨rfl,ho0.of_nil.trans ho,hsp⟩
end Go.Proofs.YtcidjimefnhacaaGreatDoor.V
namespace Go.Proofs.YtcidjimefnhacaaGreatDoor.V
open Go.RowKit
def Turn (w:World) (p:Nat) (l:List Nat) (w':World) (m':SpM):Prop:=Only l w w'/\∃l',SpaceAt w' p l' m'/\∀b∈l',b∈l\/w.heap.size<=b
theorem Turn.same {w w':World} {p:Nat} {l:List Nat} {m:SpM} (h:SpaceAt w p l m) (ho:Only [] w w'):Turn w p l w' m:=⟨ho.of_nil,l,h.still ho,fun b hb=>.inl hb⟩
theorem Turn.in_ {w w':World} {p:Nat} {l:List Nat} {m:SpM} (ho:Only l w w') (h:SpaceAt w' p l m):Turn w p l w' m:=⟨ho,l,h,fun b hb=>.inl hb⟩
theorem Turn.step {w w1 w2:World} {p:Nat} {l l1:List Nat} {m2:SpM} (ho:Only l w w1) (hl:∀b∈l1,b∈l\/w.heap.size<=b) (h:Turn w1 p l1 w2 m2):Turn w p l w2 m2:=by
 obtain⟨h1,l2,h2,h3⟩:=h
 refine⟨ho.then_ h1 hl,l2,h2,fun b hb=>?_⟩
 rcases h3 b hb with h4|h4
 ·exact hl b h4
 ·exact .inr (Nat.le_trans ho.size h4)
theorem Turn.first {w w1 w2:World} {p:Nat} {l:List Nat} {m2:SpM} (ho:Only [] w w1) (h:Turn w1 p l w2 m2):Turn w p l w2 m2:=Turn.step ho.of_nil (fun b hb=>.inl hb) h
theorem Turn.last {w w1 w2:World} {p:Nat} {l:List Nat} {m2:SpM} (h:Turn w p l w1 m2) (ho:Only [] w1 w2):Turn w p l w2 m2:=by
 obtain⟨h1,l2,h2,h3⟩:=h
 exact⟨h1.trans ho.of_nil,l2,h2.still ho,h3⟩
namespace SpM
def mapE (m:SpM) (a b:Int):Int:=if ¬m.inR a b then 1 else if anyTo (fun v=>v != 0) (fun k=>m.st (a+k)) b.toNat then 5 else 0
def mapM (m:SpM) (a b:Int):SpM:=if m.mapE a b=0 then m.setR a b 1 else m
def leaveE (m:SpM) (a b:Int):Int:=if ¬m.inR a b then 1 else if anyTo (fun v=>v==0) (fun k=>m.st (a+k)) b.toNat then 7 else 0
end SpM
set_option maxHeartbeats 1600000 in
theorem Map_any {w:World} (hE:Env w) {p:Nat} {l:List Nat} {m:SpM} (h:SpaceAt w p l m) (a b:Int) (ha:I64 a) (hb:I64 b):
 Calls Tryz.prog 160 #[.pointer (some ⟨p,0,none⟩),.int .i64 a,.int .i64 b] w fun e w'=>e=.returned (.int .i64 (m.mapE a b))/\Turn w p l w' (m.mapM a b):=by
 have CR:=Lib.hid (run_any h a b ha hb)
 have HH:=Lib.hid h
 have HE:=Lib.hid hE
 by_cases hin:m.inR a b
 ·have HS1:=h.good.s1
  have hb2:b.toNat<=9223372036854775807:=by obtain⟨i1,i2,i3,i4⟩:=hin;have:=h.good.n2;omega
  have HIN:=Lib.hid hin
  clear h hE
  go_enter Tryz.func160,Tryz.ntmps160
  go_wp2_with fail
  refine CR.out.mono ?_
  rintro e w1 ⟨rfl,h1,_⟩
  obtain⟨A,c,rfl,hr⟩:=h1 HIN.out
  have CC:=Lib.hid (ContainsFunc_any w HE.out A _ c _ hr hb2 (fun k=>HS1 _))
  cases hq:anyTo (fun v=>v != 0) (fun k=>m.st (a+k)) b.toNat
  ·have e1:m.mapE a b=0:=by unfold SpM.mapE;rw[if_neg (by simpa using hin),if_neg (by simp[hq])]
   have e2:m.mapM a b=m.setR a b 1:=by unfold SpM.mapM;rw[if_pos e1]
   rw[hq] at CC
   have E1:=Lib.hid e1
   have E2:=Lib.hid e2
   clear hin h1 hr hq e1 e2 HS1
   have g0:=cell_after HE.out.c0
   have g1:=cell_after HE.out.c1
   go_wp2_with (first|(go_at_call 187;refine Grew.use CC.out (fun w1 ho1=>?_);have c0:=g0 ⟨w1,ho1⟩;have c1:=g1 ⟨w1,ho1⟩))
   refine(set_any (HH.out.still ho1) a b 1 (.inr rfl) HIN.out).mono ?_
   rintro e w2 ⟨rfl,ho2,hs2⟩
   go_wp2_with fail
   go_ret
   exact⟨by rw[E1.out];rfl,by rw[E2.out];exact Turn.in_ (ho1.of_nil.trans ho2) hs2⟩
  ·have e1:m.mapE a b=5:=by unfold SpM.mapE;rw[if_neg (by simpa using hin),if_pos (by simp[hq])]
   have e2:m.mapM a b=m:=by unfold SpM.mapM;rw[if_neg (by rw[e1];decide)]
   rw[hq] at CC
   have E1:=Lib.hid e1
   have E2:=Lib.hid e2
   clear hin h1 hr hq e1 e2 HS1
   go_wp2_with (first|(go_at_call 187;refine Grew.use CC.out (fun w1 ho1=>?_)))
   go_ret
   exact⟨by rw[E1.out];rfl,by rw[E2.out];exact Turn.same HH.out ho1⟩
 ·have e1:m.mapE a b=1:=by unfold SpM.mapE;rw[if_pos hin]
  have e2:m.mapM a b=m:=by unfold SpM.mapM;rw[if_neg (by rw[e1];decide)]
  have HIN:=Lib.hid hin
  have E1:=Lib.hid e1
  have E2:=Lib.hid e2
  clear h hE hin e1 e2
  go_enter Tryz.func160,Tryz.ntmps160
  go_wp2_with fail
  refine CR.out.mono ?_
  rintro e w1 ⟨rfl,_,h1⟩
  rw[h1 HIN.out]
  go_wp2_with fail
  go_ret
  exact⟨by rw[E1.out];rfl,by rw[E2.out];exact Turn.same HH.out (Only.refl _ _)⟩
end Go.Proofs.YtcidjimefnhacaaGreatDoor.V
namespace Go.Proofs.YtcidjimefnhacaaGreatDoor.V
open Go.RowKit
def lastP (addr words:Int):Int:=(addr/8+words-1)/32
namespace SpM
def acc (m:SpM) (addr words:Int):Int:=
 if words=0 then 0 else if addr<0\/addr%8≠0 then 7 else if(m.n:Int)<=lastP addr words then 7
 else if anyTo (fun v=>v==0) (fun k=>m.st (((addr/256).toNat:Int)+k)) ((lastP addr words+1).toNat -(addr/256).toNat) then 7 else 0
def cnt (m:SpM) (addr words:Int):Int:=if words<0\/32768<words then 1 else m.acc addr words
end SpM
set_option maxRecDepth 100000 in
set_option maxHeartbeats 4000000 in
theorem access_any {w:World} (hE:Env w) {p:Nat} {l:List Nat} {m:SpM} (h:SpaceAt w p l m) (addr words:Int) (ha:I64 addr) (hw1:0<=words) (hw2:words<=32768):
 Grew Tryz.prog 53 #[.pointer (some ⟨p,0,none⟩),.int .i64 addr,.int .i64 words] w (.int .i64 (m.acc addr words)):=by
 have CM:=Lib.hid (made_any h)
 by_cases h0:words=0
 ·have E:=Lib.hid (show m.acc addr words=0 by unfold SpM.acc;rw[if_pos h0])
  subst h0
  clear h hE
  go_enter Tryz.func53,Tryz.ntmps53
  go_wp2_with (first|(go_at_call 67;refine Still.use CM.out ?_))
  go_ret
  exact⟨by rw[E.out];rfl,Only.refl _ _⟩
 ·have d0:(words==0)=false:=beq_eq_false_iff_ne.2 h0
  by_cases h1:addr<0\/addr%8≠0
  ·have E:=Lib.hid (show m.acc addr words=7 by unfold SpM.acc;rw[if_neg h0,if_pos h1])
   clear h hE
   by_cases h2:addr<0
   ·have d1:decide (addr<0)=true:=decide_eq_true h2
    clear h1 h2
    go_enter Tryz.func53,Tryz.ntmps53
    go_wp2_with (first|(go_at_call 67;refine Still.use CM.out ?_))
    go_ret
    exact⟨by rw[E.out];rfl,Only.refl _ _⟩
   ·have d1:decide (addr<0)=false:=decide_eq_false h2
    have h3:addr%8≠0:=by omega
    have d2:(addr%8==0)=false:=beq_eq_false_iff_ne.2 h3
    have d3:(addr%8 != 0)=true:=bne_iff_ne.2 h3
    clear h1
    go_enter Tryz.func53,Tryz.ntmps53
    go_wp2_with (first|(go_at_call 67;refine Still.use CM.out ?_))
    go_ret
    exact⟨by rw[E.out];rfl,Only.refl _ _⟩
  ·have h2:0<=addr:=by omega
   have d1:decide (addr<0)=false:=decide_eq_false (by omega)
   have h3:addr%8=0:=by omega
   have d2:(addr%8==0)=true:=beq_iff_eq.2 h3
   have ha':=ha
   unfold I64 at ha'
   obtain⟨ha1,ha2⟩:=ha'
   have t1:addr.tdiv 256=addr/256:=Int.tdiv_eq_ediv_of_nonneg h2
   have t2:addr.tdiv 8=addr/8:=Int.tdiv_eq_ediv_of_nonneg h2
   have t3:(addr/8+words-1).tdiv 32=lastP addr words:=Int.tdiv_eq_ediv_of_nonneg (by omega)
   have q1:0<=addr/8:=by omega
   have q2:0<=addr/256:=by omega
   have q3:addr/256<=lastP addr words:=by unfold lastP;omega
   have q4:lastP addr words<=1000000000000000000:=by unfold lastP;omega
   have HL:Hid (lastP addr words=(addr/8+words-1)/32):=rfl
   have HA:Hid (m.acc addr words=if(m.n:Int)<=lastP addr words then 7 else if anyTo (fun v=>v==0) (fun k=>m.st (((addr/256).toNat:Int)+k)) ((lastP addr words+1).toNat -(addr/256).toNat) then 7 else 0):=by
    show _=_
    unfold SpM.acc
    rw[if_neg h0,if_neg h1]
   obtain⟨hg,h3',h4,gp,cap,gm,G,hp⟩:=h
   have z0:=cell_after (hp.blk.cell_ 0 rfl)
   have u0:=cell_after hE.u0
   have u1:=cell_after hE.u1
   have hn2:=hg.n2
   have hcap:=hp.cap_
   have HS1:=Lib.hid hg.s1
   have HROW:=Lib.hid hp.row
   clear hp hg hE h1
   by_cases h5:(m.n:Int)<=lastP addr words
   ·have E:=Lib.hid (HA.out.trans (if_pos h5))
    have d5:decide ((m.n:Int)<=lastP addr words)=true:=decide_eq_true h5
    generalize m.n=n at *
    go_enter Tryz.func53,Tryz.ntmps53
    go_wp2_with (first|(go_at_call 67;refine Still.use CM.out ?_))
    refine wp_region_grew (by kernel_rfl) (by kernel_rfl) ?_
    repeat (go_big_quiet_step (fail))
    refine wpQuiet_nil ?_
    rintro _ ⟨⟨w2,ho2⟩,rfl⟩
    go_wp2_with fail
    go_ret
    exact⟨by rw[E.out];rfl,ho2⟩
   ·have HB:=Lib.hid (HA.out.trans (if_neg h5))
    have d5:decide ((m.n:Int)<=lastP addr words)=false:=decide_eq_false h5
    have CC:=Lib.hid (fun (u:After w)=>Contains_any u.w' (some ⟨gp,(addr/256).toNat *2,none⟩) ((lastP addr words+1).toNat -(addr/256).toNat) (cap-(addr/256).toNat) _
     ((HROW.out.reads (a:=((addr/256).toNat:Int)) (b:=(lastP addr words+1).toNat -(addr/256).toNat) (by omega) (by omega)).still u.ok) (by omega) (fun k=>HS1.out _))
    generalize anyTo (fun v=>v==0) (fun k=>m.st (((addr/256).toNat:Int)+k)) ((lastP addr words+1).toNat -(addr/256).toNat)=q at *
    generalize m.n=n at *
    have hq:I64 (lastP addr words+1):=by unfold I64;omega
    go_enter Tryz.func53,Tryz.ntmps53
    go_wp2_with (first|(go_at_call 67;refine Still.use CM.out ?_))
    generalize lastP addr words=lp at *
    cases q
    all_goals
     have E:=Lib.hid HB.out
     refine wp_region_grew (by kernel_rfl) (by kernel_rfl) ?_
     repeat (go_big_quiet_step (first|(go_at_call 68;with_reducible exact Grew.g (CC.out _))))
     refine wpQuiet_nil ?_
     rintro _ ⟨⟨w2,ho2⟩,rfl⟩
     go_wp2_with fail
     go_ret
     exact⟨by rw[E.out];rfl,ho2⟩
end Go.Proofs.YtcidjimefnhacaaGreatDoor.V
namespace Go.Proofs.YtcidjimefnhacaaGreatDoor.V
open Go.RowKit
set_option maxHeartbeats 1600000 in
theorem get_any {w:World} {p:Nat} {l:List Nat} {m:SpM} (h:SpaceAt w p l m) (word:Int) (h0:0<=word) (h1:word<32*m.n):
 Still Tryz.prog 54 #[.pointer (some ⟨p,0,none⟩),.int .i64 word] w (.int .i64 (m.h word)):=by
 obtain⟨hg,h3,h4,gp,cap,gm,G,hp⟩:=h
 have z1:=hp.blk.cell_ 1 rfl
 have hn2:=hg.n2
 have t1:word.tdiv 32=word/32:=Int.tdiv_eq_ediv_of_nonneg h0
 have q1:0<=word/32:=by omega
 have q2:word/32<m.n:=by omega
 have q3:word<=32768:=by omega
 rcases hp.dict.look (k:=word/32) (by unfold I64;omega) true with ⟨g,cp,hG,_,hrun⟩|⟨hG,hrun⟩
 ·obtain⟨c1,_,_,_,_,c6⟩:=hp.words _ _ hG
  have hc:=c6.cell (k:=(word%32).toNat) (by omega)
  rw[show 32*(word/32)+((word%32).toNat:Int)=word by omega] at hc
  rw[if_pos rfl] at hrun
  clear hp hg hG c1 c6
  go_enter Tryz.func54,Tryz.ntmps54
  go_wp2_with fail
  go_ret
  exact⟨rfl,rfl⟩
 ·have e:m.h word=0:=hg.h0 word (fun e=>by
   obtain⟨g,hg'⟩:=hp.all _ q1 q2 e
   rw[hG] at hg'
   cases hg')
  rw[if_pos rfl] at hrun
  rw[e]
  clear hp hg hG e
  go_enter Tryz.func54,Tryz.ntmps54
  go_wp2_with fail
  go_ret
  exact⟨rfl,rfl⟩
theorem SpM.acc_ok {m:SpM} {addr words:Int} (hw:1<=words) (h:m.acc addr words=0):0<=addr/\addr%8=0/\addr/8+words<=32*m.n/\∀j:Int,addr/8<=j->j<addr/8+words->m.st (j/32)≠0:=by
 unfold SpM.acc at h
 rw[if_neg (by omega)] at h
 split at h
 ·cases h
 ·rename_i h1
  split at h
  ·cases h
  ·rename_i h2
   split at h
   ·cases h
   ·rename_i h3
    unfold lastP at h2 h3
    refine⟨by omega,by omega,by omega,fun j hj1 hj2 h0=>?_⟩
    rw[anyTo_true] at h3
    refine h3 ⟨(j/32-addr/256).toNat,by omega,?_⟩
    rw[show(((addr/256).toNat:Int)+((j/32-addr/256).toNat:Int))=j/32 by omega,h0]
    rfl
set_option maxHeartbeats 1600000 in
theorem Read_any {w:World} (hE:Env w) {p:Nat} {l:List Nat} {m:SpM} (h:SpaceAt w p l m) (addr:Int) (ha:I64 addr):
 Grew Tryz.prog 32 #[.pointer (some ⟨p,0,none⟩),.int .i64 addr] w (.tuple #[.int .i64 (if m.acc addr 1=0 then m.h (addr/8) else 0),.int .i64 (m.acc addr 1)]):=by
 have CA:=Lib.hid (access_any hE h addr 1 ha (by omega) (by omega))
 have HH:=Lib.hid h
 by_cases h0:m.acc addr 1=0
 ·obtain⟨a1,a2,a3,_⟩:=SpM.acc_ok (by omega) h0
  have t1:addr.tdiv 8=addr/8:=Int.tdiv_eq_ediv_of_nonneg a1
  have E:=Lib.hid h0
  rw[h0] at CA
  have hn2:=h.good.n2
  have q1:0<=addr/8:=by omega
  have q2:addr/8<=32768:=by omega
  have HI:=Lib.hid a3
  clear h hE h0 a3
  go_enter Tryz.func32,Tryz.ntmps32
  go_wp2_with (first|(go_at_call 53;refine Grew.use CA.out (fun w1 ho1=>?_)))
  refine Still.use (get_any (HH.out.still ho1) _ q1 (by have:=HI.out;omega)) ?_
  go_wp2_with fail
  go_ret2
  exact⟨rfl,ho1⟩
 ·have E:=Lib.hid h0
  have d1:(m.acc addr 1==0)=false:=beq_eq_false_iff_ne.2 h0
  have d2:(m.acc addr 1 != 0)=true:=bne_iff_ne.2 h0
  clear h hE h0
  go_enter Tryz.func32,Tryz.ntmps32
  go_wp2_with (first|(go_at_call 53;refine Grew.use CA.out (fun w1 ho1=>?_)))
  go_ret2
  exact⟨rfl,ho1⟩
end Go.Proofs.YtcidjimefnhacaaGreatDoor.V
