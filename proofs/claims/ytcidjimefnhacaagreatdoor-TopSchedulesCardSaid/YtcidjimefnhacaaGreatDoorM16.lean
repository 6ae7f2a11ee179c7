/- TopSchedules, a part of the proof: Pn, IMap, Bu. -/
import Derived.Test.YtcidjimefnhacaaGreatDoorM15
import Derived.ChangeKeysEq
import Derived.Test.YtcidjimefnhacaaGreatDoorM01
import Derived.Maps.OwnSet
import Derived.Maps.OwnOps
import Derived.Maps.RangeRun
set_option linter.unusedVariables false
set_option linter.unusedSimpArgs false
namespace Go.Proofs.YtcidjimefnhacaaGreatDoor
open Go.RowKit
theorem eqItems_some {P:Program} {W:World} {d:Nat} {e:TypeId} {xs ys:Array Value} (hp:∀(zs:Array Value) (j:Nat) (v:Value),zs[j]? =some v->(part e zs j).run P W=.ok v W):
 ∀is:List Nat,(∀j∈is,∃x y r,xs[j]? =some x/\ys[j]? =some y/\(Op.equalIn d e x y).run P W=.ok r W)->∃b,(Op.eqItems d e 1 xs ys is).run P W=.ok b W
 | [],_=>⟨true,by simp[Op.eqItems]⟩
 |j::is,h=>by
  obtain⟨x,y,r,h1,h2,h3⟩:=h j (by simp)
  obtain⟨b,hb⟩:=eqItems_some hp is (fun i hi=>h i (by simp[hi]))
  simp only[Op.eqItems,Sem.run_bind,Nat.mul_one,hp xs j x h1,hp ys j y h2,h3,Result.andThen_ok]
  cases r
  ·exact⟨false,by simp⟩
  ·exact⟨b,by simpa using hb⟩
theorem leaf_eql (W:World) (xs ys:Array Value) (hx:∀j,j<8->∃a,xs[j]? =some (.int .i64 a)) (hy:∀j,j<8->∃a,ys[j]? =some (.int .i64 a)):∃b,(binOp .eql 319 (.agg xs) (.agg ys)).run Tryz.prog W=.ok (.bool b) W:=by
 have hu:Tryz.prog.underlying 319=some (.array 8 3):=by kernel_rfl
 obtain⟨i0,hi,hz0,hz1,hz2⟩:=info_parts info_int
 have hc:Tryz.prog.cellsOf 3=1:=by kernel_rfl
 have h:=run_equalIn_array (P:=Tryz.prog) (w:=W) 9999 (t:=319) xs ys hu hi
 rw[hc] at h
 obtain⟨b,hb⟩:=eqItems_some (P:=Tryz.prog) (W:=W) (d:=9999) (e:=3) (xs:=xs) (ys:=ys) (fun zs j v hv=>by
  simp[part,isAgg,run_underlying Tryz.underlying3,hv,Result.andThen]) (List.range 8) (fun j hj=>by
  obtain⟨a,ha⟩:=hx j (by simpa using hj)
  obtain⟨b,hb⟩:=hy j (by simpa using hj)
  exact⟨_,_,_,ha,hb,run_equalIn_int W 9998 3 .i64 .i64 a b Tryz.underlying3⟩)
 exact⟨b,by simp only[run_eql_struct,h,hb,Result.andThen_ok]⟩
theorem mid_eql (W:World) (xs ys:Array Value) (hx:∀j,j<8->∃a,xs[j]? =some (pv a)) (hy:∀j,j<8->ys[j]? =some (.pointer none)):∃b,(binOp .eql 315 (.agg xs) (.agg ys)).run Tryz.prog W=.ok (.bool b) W:=by
 have hu:Tryz.prog.underlying 315=some (.array 8 279):=by kernel_rfl
 have hc:Tryz.prog.cellsOf 279=1:=by kernel_rfl
 have hp:Tryz.prog.underlying 279=some (.pointer 319):=by kernel_rfl
 have hp':Tryz.prog.underlying 279=some (.pointer (Tryz.prog.pointee 279)):=by kernel_rfl
 obtain⟨i0,hi⟩:∃i,Tryz.prog.info? 279=some i:=by
  cases h:Tryz.prog.info? 279 with
  |some i=>exact⟨i,rfl⟩
  |none=>
   have:(Tryz.prog.info? 279).isSome=true:=by kernel_rfl
   rw[h] at this;cases this
 have h:=run_equalIn_array (P:=Tryz.prog) (w:=W) 9999 (t:=315) xs ys hu hi
 rw[hc] at h
 obtain⟨b,hb⟩:=eqItems_some (P:=Tryz.prog) (W:=W) (d:=9999) (e:=279) (xs:=xs) (ys:=ys) (fun zs j v hv=>by
  simp[part,isAgg,run_underlying hp,hv,Result.andThen]) (List.range 8) (fun j hj=>by
  obtain⟨a,ha⟩:=hx j (by simpa using hj)
  have hb:=hy j (by simpa using hj)
  exact⟨_,_,_,ha,hb,run_equalIn_pointer_nil W 9998 279 _ hp'⟩)
 exact⟨b,by simp only[run_eql_struct,h,hb,Result.andThen_ok]⟩
theorem wpList_load_row {w:World} {ops:Array Oper} {rest:List Oper} {o:Oper} {a:Act} {Q:Exit->Act->World->Prop} (hgd:o.guard=none) (t:TypeId) (x:Operand) (ho:o.op=.load t x) {g n:Nat} {f:Nat->Value} (hx:a.eval x=.pointer (some ⟨g,0,none⟩))
 {d:Nat} {e:TypeId} (hu:Tryz.prog.underlying t=some (.array d e)) (hi:(Tryz.prog.info? t).map (·.size)=some n) (hr:RowT w g t n f)
 (h:∀cs:Array Value,(∀k,k<n->cs[k]? =some (f k))->wpList Tryz.prog ops Q rest (a.put o.dst (.agg cs)) w):wpList Tryz.prog ops Q (o::rest) a w:=by
 refine wpList_plain hgd fun K hK=>?_
 obtain⟨cs,h1,h2,h3⟩:=hr
 have hl:=run_loadVar_row (P:=Tryz.prog) w g t t cs (0,0) _ h1 hu rfl (by rw[hi,h2])
 unfold Oper.wp
 simp[execOp,ho,hx,Instr.loadAt,Instr.sureAddr,asAddr,hl,Result.andThen]
 exact hK _ _ (h cs h3)
theorem wpList_eql_opaque {w:World} {ops:Array Oper} {rest:List Oper} {o:Oper} {a:Act} {Q:Exit->Act->World->Prop} (hgd:o.guard=none) (t ty:TypeId) (x y:Operand) (ho:o.op=.binOp .eql t x y ty) {xs ys:Array Value} (hx:a.eval x=.agg xs) (hy:a.eval y=.agg ys)
 (hr:∃b,(binOp .eql t (.agg xs) (.agg ys)).run Tryz.prog w=.ok (.bool b) w) (hg:Tryz.prog.eqGuardType Tryz.prog.depth t=false)
 (h:∀b,wpList Tryz.prog ops Q rest (a.put o.dst (.bool b)) w):wpList Tryz.prog ops Q (o::rest) a w:=by
 refine wpList_plain hgd fun K hK=>?_
 obtain⟨b,hb⟩:=hr
 unfold Oper.wp
 have hq:(eqGuard .eql t x y (.agg xs) (.agg ys)).run Tryz.prog w=.ok () w:=by simp[eqGuard,hg]
 simp[execOp,ho,hx,hy,hq,hb,Result.andThen]
 exact hK _ _ (h b)
theorem pmid_at {p:Nat} {w:World} {fp:List Nat} (h:PmSt p w fp) (i:Nat) (hi:i<16):Calls Tryz.prog 215 #[.pointer (some ⟨p,1+i,none⟩)] w fun e w'=>
 ∃m fp',e=.returned (.pointer (some ⟨m,0,none⟩))/\PmSt p w' fp'/\m∈fp'/\isMid w' fp' m/\Only fp w w'/\∀b∈fp',b∈fp\/w.heap.size<=b:=by
 have H:=h
 obtain⟨h1,h2,f,h3,h4⟩:=h
 have z0:w.cell? ⟨p,1+i,none⟩=some (pv (f i)):=by rw[Nat.add_comm];exact h3.cell (k:=i+1) (by omega)
 refine(there_mid w p (1+i) (f i) z0 (h3.frozen _)).mono ?_
 rintro e w' (⟨c,hc,rfl,rfl⟩|⟨hn,rfl,rfl⟩)
 ·obtain⟨a1,a2⟩:=h4 i c hi hc
  exact⟨c,fp,rfl,H,a1,a2,Only.refl _ _,fun b hb=>.inl hb⟩
 ·obtain⟨b1,b2⟩:=H.newMid i hi
  rw[Nat.add_comm] at b1 b2
  refine⟨w.heap.size,_,rfl,b1,by simp,b2,((Only.refl fp w).setCell (.inl h1) _).alloc _,fun b hb=>?_⟩
  simp only[List.mem_cons] at hb
  rcases hb with rfl|hb
  ·exact .inr (Nat.le_refl _)
  ·exact .inl hb
theorem pleaf_at {p:Nat} {w:World} {fp:List Nat} (h:PmSt p w fp) {m:Nat} (hmf:m∈fp) (hm:isMid w fp m) (j:Nat) (hj:j<8):Calls Tryz.prog 216 #[.pointer (some ⟨m,j,none⟩)] w fun e w'=>
 ∃l fp',e=.returned (.pointer (some ⟨l,0,none⟩))/\PmSt p w' fp'/\l∈fp'/\isLeaf w' l/\m∈fp'/\isMid w' fp' m/\Only fp w w'/\∀b∈fp',b∈fp\/w.heap.size<=b:=by
 have HM:=hm
 obtain⟨f,h3,h4⟩:=hm
 have z0:w.cell? ⟨m,j,none⟩=some (pv (f j)):=h3.cell hj
 refine(there_leaf w m j (f j) z0 (h3.frozen _)).mono ?_
 rintro e w' (⟨c,hc,rfl,rfl⟩|⟨hn,rfl,rfl⟩)
 ·obtain⟨a1,a2⟩:=h4 j c hj hc
  exact⟨c,fp,rfl,h,a1,a2,hmf,HM,Only.refl _ _,fun b hb=>.inl hb⟩
 ·obtain⟨b1,b2,b3⟩:=h.newLeaf hmf HM j hj
  refine⟨w.heap.size,_,rfl,b1,by simp,b2,by simp[hmf],b3,((Only.refl fp w).setCell (.inl hmf) _).alloc _,fun b hb=>?_⟩
  simp only[List.mem_cons] at hb
  rcases hb with rfl|hb
  ·exact .inr (Nat.le_refl _)
  ·exact .inl hb
set_option maxRecDepth 100000 in
set_option maxHeartbeats 4000000 in
theorem pput_at {p:Nat} {w:World} {fp:List Nat} (h:PmSt p w fp) (page:Nat) (hp:page<1024) (no:Int):Calls Tryz.prog 194 #[.pointer (some ⟨p,0,none⟩),.int .i64 page,.int .i64 no] w fun e w'=>e=.returned (.tuple #[])/\Turns (PmSt p) w fp w':=by
 obtain⟨a,ha⟩:∃a,a=page/64:=⟨_,rfl⟩
 obtain⟨b,hb⟩:∃b,b=page/8%8:=⟨_,rfl⟩
 obtain⟨c,hc⟩:∃c,c=page%8:=⟨_,rfl⟩
 have t1:(page:Int).tdiv 8=((page/8:Nat):Int):=by rw[Int.tdiv_eq_ediv_of_nonneg (by omega)];omega
 have t2:((page/8:Nat):Int).tdiv 8=a:=by rw[Int.tdiv_eq_ediv_of_nonneg (by omega)];omega
 have t3:((page/8:Nat):Int).tmod 8=b:=by rw[Int.tmod_eq_emod_of_nonneg (by omega)];omega
 have t4:(page:Int).tmod 8=c:=by rw[Int.tmod_eq_emod_of_nonneg (by omega)];omega
 obtain⟨q,hq⟩:∃q,q=page/8:=⟨_,rfl⟩
 rw[<-hq] at t1 t2 t3
 have w1:IntKind.i64.wrap (q:Int)=q:=IntWalk.i64_in _ (by omega)
 have w2:IntKind.i64.wrap (a:Int)=a:=IntWalk.i64_in _ (by omega)
 have w3:IntKind.i64.wrap (b:Int)=b:=IntWalk.i64_in _ (by omega)
 have w4:IntKind.i64.wrap (c:Int)=c:=IntWalk.i64_in _ (by omega)
 have ha16:a<16:=by omega
 have hb8:b<8:=by omega
 have hc8:c<8:=by omega
 have ia:(a:Int)<16:=by omega
 have ib:(b:Int)<8:=by omega
 have ic:(c:Int)<8:=by omega
 have H:=Lib.hid h
 have CA:=Lib.hid (pmid_at h a ha16)
 clear h ha hb hc hq
 go_enter Tryz.func194,Tryz.ntmps194
 go_wp2_with fail
 refine CA.out.mono ?_
 rintro e w1 ⟨m,fp1,rfl,hs1,hm1,hmm1,ho1,hf1⟩
 have CB:=Lib.hid (pleaf_at hs1 hm1 hmm1 b hb8)
 have HO1:=Lib.hid ho1
 have HF1:=Lib.hid hf1
 clear hs1 hm1 hmm1 ho1 hf1 CA
 go_wp2_with fail
 refine CB.out.mono ?_
 rintro e w2 ⟨l,fp2,rfl,hs2,hl2,hll2,hm2,hmm2,ho2,hf2⟩
 have HTo:Hid (Only fp w w2/\∀b∈fp2,b∈fp\/w.heap.size<=b):=by
  refine⟨HO1.out.then_ ho2 HF1.out,fun x hx=>?_⟩
  rcases hf2 x hx with h|h
  ·exact HF1.out x h
  ·exact .inr (Nat.le_trans HO1.out.size h)
 have hs3:=hs2.upd3 hll2 c no
 have hl3:=hll2.upd c no hll2
 have hm3:=hmm2.upd3 hll2 c no
 obtain⟨g,hg⟩:=hll2
 have c0:=hg.cell hc8
 have f0:=hg.frozen c
 have o3:Only fp2 w2 (w2.setCell ⟨l,c,none⟩ (.int .i64 no)):=(Only.refl fp2 w2).setCell (.inl hl2) _
 have HS3:=Lib.hid hs3
 have HL3:=Lib.hid hl3
 have HM3:=Lib.hid hm3
 have HM2:=Lib.hid hm2
 have HO3:=Lib.hid o3
 clear hs2 hl2 hm2 hmm2 ho2 hf2 HO1 HF1 CB hs3 hl3 hm3 o3 hg
 have uL:Tryz.prog.underlying 319=some (.array 8 3):=by kernel_rfl
 have uM:Tryz.prog.underlying 315=some (.array 8 279):=by kernel_rfl
 have iL:(Tryz.prog.info? 319).map (·.size)=some 8:=by kernel_rfl
 have iM:(Tryz.prog.info? 315).map (·.size)=some 8:=by kernel_rfl
 have gL:Tryz.prog.eqGuardType Tryz.prog.depth 319=false:=by kernel_rfl
 have gM:Tryz.prog.eqGuardType Tryz.prog.depth 315=false:=by kernel_rfl
 have HM4:Hid (isMid ((w2.setCell ⟨l,c,none⟩ (.int .i64 no)).setCell ⟨m,b,none⟩ (.pointer none)) fp2 m):=isMid.upd HM3.out b hb8 none (fun c hc=>by cases hc) HM3.out
 have HS4:Hid (PmSt p ((w2.setCell ⟨l,c,none⟩ (.int .i64 no)).setCell ⟨m,b,none⟩ (.pointer none)) fp2):=HS3.out.upd2 HM3.out b hb8 none (fun c hc=>by cases hc)
 have HS5:Hid (PmSt p ((w2.setCell ⟨l,c,none⟩ (.int .i64 no)).setCell ⟨p,1+a,none⟩ (.pointer none)) fp2):=by have:=HS3.out.upd1 a ha16 none (fun c hc=>by cases hc);rw[Nat.add_comm] at this;exact this
 have HS6:Hid (PmSt p (((w2.setCell ⟨l,c,none⟩ (.int .i64 no)).setCell ⟨m,b,none⟩ (.pointer none)).setCell ⟨p,1+a,none⟩ (.pointer none)) fp2):=by have:=HS4.out.upd1 a ha16 none (fun c hc=>by cases hc);rw[Nat.add_comm] at this;exact this
 have y3:∃v,(w2.setCell ⟨l,c,none⟩ (.int .i64 no)).cell? ⟨m,b,none⟩=some (pv v):=by obtain⟨g3,hg3,_⟩:=HM3.out;exact⟨_,hg3.cell hb8⟩
 have y4:∃v,(w2.setCell ⟨l,c,none⟩ (.int .i64 no)).cell? ⟨p,1+a,none⟩=some (pv v):=by obtain⟨_,_,f,h3,_⟩:=HS3.out;exact⟨_,by rw[Nat.add_comm];exact h3.cell (k:=a+1) (by omega)⟩
 have y5:∃v,((w2.setCell ⟨l,c,none⟩ (.int .i64 no)).setCell ⟨m,b,none⟩ (.pointer none)).cell? ⟨p,1+a,none⟩=some (pv v):=by obtain⟨_,_,f,h3,_⟩:=HS4.out;exact⟨_,by rw[Nat.add_comm];exact h3.cell (k:=a+1) (by omega)⟩
 have f3:(w2.setCell ⟨l,c,none⟩ (.int .i64 no)).frozen? ⟨m,b,none⟩=false:=by obtain⟨g3,hg3,_⟩:=HM3.out;exact hg3.frozen b
 have f4:(w2.setCell ⟨l,c,none⟩ (.int .i64 no)).frozen? ⟨p,1+a,none⟩=false:=by obtain⟨_,_,f,h3,_⟩:=HS3.out;exact h3.frozen _
 have f5:((w2.setCell ⟨l,c,none⟩ (.int .i64 no)).setCell ⟨m,b,none⟩ (.pointer none)).frozen? ⟨p,1+a,none⟩=false:=by obtain⟨_,_,f,h3,_⟩:=HS4.out;exact h3.frozen _
 obtain⟨v3,y3⟩:=y3
 obtain⟨v4,y4⟩:=y4
 obtain⟨v5,y5⟩:=y5
 have hfp2:=HS3.out.mem
 have fin:∀W,Only fp2 w2 W->PmSt p W fp2->Turns (PmSt p) w fp W:=fun W ho hs=>⟨HTo.out.1.then_ ho HTo.out.2,fp2,hs,HTo.out.2⟩
 have FIN:=Lib.hid fin
 clear fin
 go_wp2_with (first
  |(obtain⟨g3,hg3⟩:=HL3.out;refine wpList_load_row rfl 319 _ rfl rfl uL iL hg3 ?_;intro cs hcs)
  |(refine wpList_eql_opaque rfl 319 _ _ _ rfl rfl rfl (leaf_eql _ _ _ (fun j hj=>⟨_,hcs j hj⟩) (fun j hj=>⟨0,by rcases (show j=0\/j=1\/j=2\/j=3\/j=4\/j=5\/j=6\/j=7 by omega) with rfl|rfl|rfl|rfl|rfl|rfl|rfl|rfl<;>rfl⟩)) gL ?_;intro b1;clear hcs)
  |(obtain⟨g4,hg4,_⟩:=HM3.out;refine wpList_load_row rfl 315 _ rfl rfl uM iM hg4 ?_;intro cs hcs)
  |(obtain⟨g4,hg4,_⟩:=HM4.out;refine wpList_load_row rfl 315 _ rfl rfl uM iM hg4 ?_;intro cs hcs)
  |(refine wpList_eql_opaque rfl 315 _ _ _ rfl rfl rfl (mid_eql _ _ _ (fun j hj=>⟨_,hcs j hj⟩) (fun j hj=>by rcases (show j=0\/j=1\/j=2\/j=3\/j=4\/j=5\/j=6\/j=7 by omega) with rfl|rfl|rfl|rfl|rfl|rfl|rfl|rfl<;>rfl)) gM ?_;intro b2;clear hcs))
 all_goals
  go_end0
  first
   |exact⟨rfl,FIN.out _ HO3.out HS3.out⟩
   |exact⟨rfl,FIN.out _ (HO3.out.setCell (.inl HM2.out) _) HS4.out⟩
   |exact⟨rfl,FIN.out _ (HO3.out.setCell (.inl hfp2) _) HS5.out⟩
   |exact⟨rfl,FIN.out _ ((HO3.out.setCell (.inl HM2.out) _).setCell (.inl hfp2) _) HS6.out⟩
set_option maxHeartbeats 1000000 in
theorem pset_at {p:Nat} {w:World} {fp:List Nat} (h:PmSt p w fp) (o m:Nat) (hm:1<=m) (hom:o+m<=1024) (no:Int):Calls Tryz.prog 164 #[.pointer (some ⟨p,0,none⟩),.int .i64 o,.int .i64 m,.int .i64 no] w fun e w'=>e=.returned (.int .i64 0)/\Turns (PmSt p) w fp w':=by
 have CG:=Lib.hid (pgood_at h)
 have H:=Lib.hid h
 have d1:decide ((o:Int)<0)=false:=decide_eq_false (by omega)
 have d2:decide ((m:Int)<1)=false:=decide_eq_false (by omega)
 have d3:decide (1024<(o:Int))=false:=decide_eq_false (by omega)
 have w1:IntKind.i64.wrap (1024-(o:Int))=1024-o:=IntWalk.i64_in _ (by omega)
 have d4:decide (1024-(o:Int)<m)=false:=decide_eq_false (by omega)
 have w2:IntKind.i64.wrap ((o:Int)+m)=o+m:=IntWalk.i64_in _ (by omega)
 clear h
 go_enter Tryz.func164,Tryz.ntmps164
 go_wp2_with (first|(go_at_call 163;with_reducible refine Still.use CG.out ?_))
 go_loopw[9] (fun t wr=>∃k:Nat,k<=m/\t=.int .i64 (o+k)/\Turns (PmSt p) w fp wr) (fun t _=>o+m-(intOf t).toNat)
 case atStart=>exact⟨0,Nat.zero_le _,by simp,Turns.same (PmSt.framed p) H.out (Only.refl _ _)⟩
 case round=>
  obtain⟨k,hk,rfl,hT⟩:=hrel
  by_cases hlt:k<m
  ·have d5:decide ((o:Int)+k<o+m)=true:=decide_eq_true (by omega)
   obtain⟨ho1,fp1,hs1,hf1⟩:=hT
   have CP:=Lib.hid (pput_at hs1 (o+k) (by omega) no)
   rw[show(((o+k:Nat):Int))=(o:Int)+k by omega] at CP
   have HO1:=Lib.hid ho1
   have HF1:=Lib.hid hf1
   have w3:IntKind.i64.wrap ((o:Int)+k+1)=o+(k+1:Nat):=by rw[IntWalk.i64_in _ (by omega)];omega
   clear hs1 ho1 hf1
   go_wp2_with fail
   refine CP.out.mono ?_
   rintro e w2 ⟨rfl,hT2⟩
   have HT2:=Lib.hid hT2
   clear hT2
   go_wp2_with fail
   go_roundw
   case rel=>exact⟨k+1,by omega,rfl,Turns.step HO1.out HF1.out HT2.out⟩
   case measure=>simp[intOf];omega
  ·have e:k=m:=by omega
   subst e
   have d5:decide ((o:Int)+k<o+k)=false:=decide_eq_false (by omega)
   have HT:=Lib.hid hT
   clear hT
   go_wp2_with fail
   go_ret
   exact⟨rfl,HT.out⟩
theorem PSet_at {p:Nat} {w:World} {fp:List Nat} (h:PmSt p w fp) (o m:Nat) (hm:1<=m) (hom:o+m<=1024) (no:Int) (hn:1<=no/\no<=1000):Calls Tryz.prog 135 #[.pointer (some ⟨p,0,none⟩),.int .i64 o,.int .i64 m,.int .i64 no] w fun e w'=>e=.returned (.int .i64 0)/\Turns (PmSt p) w fp w':=by
 have CG:=Lib.hid (pgood_at h)
 have CS:=Lib.hid (pset_at h o m hm hom no)
 have d1:decide (no<1)=false:=decide_eq_false (by omega)
 have d2:decide (1073741824<no)=false:=decide_eq_false (by omega)
 clear h
 go_enter Tryz.func135,Tryz.ntmps135
 go_wp2_with (first|(go_at_call 163;with_reducible refine Still.use CG.out ?_))
 refine CS.out.mono ?_
 rintro e w2 ⟨rfl,hT2⟩
 have HT2:=Lib.hid hT2
 clear hT2
 go_wp2_with fail
 go_ret
 exact⟨rfl,HT2.out⟩
theorem PClear_at {p:Nat} {w:World} {fp:List Nat} (h:PmSt p w fp) (o m:Nat) (hm:1<=m) (hom:o+m<=1024):Calls Tryz.prog 148 #[.pointer (some ⟨p,0,none⟩),.int .i64 o,.int .i64 m] w fun e w'=>e=.returned (.int .i64 0)/\Turns (PmSt p) w fp w':=by
 have CS:=Lib.hid (pset_at h o m hm hom 0)
 clear h
 go_enter Tryz.func148,Tryz.ntmps148
 go_wp2_with fail
 refine CS.out.mono ?_
 rintro e w2 ⟨rfl,hT2⟩
 have HT2:=Lib.hid hT2
 clear hT2
 go_wp2_with fail
 go_ret
 exact⟨rfl,HT2.out⟩
open Go.Maps Go.ChangeMaps Go.MapKept
theorem kintI:Keyed Tryz.prog 3:=int_keyed Tryz.underlying3
theorem wf64I {k:Int} (h:I64 k):(Lit.int .i64 k).wf=true:=by
 unfold I64 at h
 exact Go.WalkArith.wf_i64 (by omega)
theorem kofI {k:Int} (h:I64 k):keyOf Tryz.prog 3 (.int .i64 k)=some (.int .i64 k):=keyOf_int_mk Tryz.underlying3 (wf64I h)
structure Ents (es:Array MapEntry) (clock:Nat) (G:Int->Option Value):Prop where
 st:Stamped es clock
 key:∀x∈es.toList,∃k,I64 k/\x.key=.int .i64 k/\G k=some x.val
 all:∀k v,G k=some v->I64 k/\∃x∈es.toList,x.key=.int .i64 k
def IMap (w:World) (b:Nat) (G:Int->Option Value) (c:Nat):Prop:=∃es clock,w.heap[b]? =some (.map es clock)/\es.size=c/\Ents es clock G
theorem only_set {w w':World} {l:List Nat} {b:Nat} {o:Obj} {es:Array MapEntry} {clock:Nat} (ho:Only l w w') (hb:w'.heap[b]? =some (.map es clock)) (hl:b∈l):Only l w (setBlock w' b o):=
 ⟨ho.os,ho.tape,ho.output,by simpa[setBlock] using ho.size,fun k hk hn=>by
  have:k≠b:=fun e=>hn (by rw[e];exact hl)
  rw[show(setBlock w' b o).heap[k]? =w'.heap[k]? from(heap_set hb).2 k this]
  exact ho.block k hk hn⟩
namespace IMap
variable {w w':World} {b c:Nat} {G:Int->Option Value}
theorem lt (h:IMap w b G c):b<w.heap.size:=by obtain⟨es,clock,hb,_⟩:=h;exact(Array.getElem?_eq_some_iff.1 hb).1
theorem only {l:List Nat} (h:IMap w b G c) (ho:Only l w w') (hb:b∉l):IMap w' b G c:=by
 have hl:=h.lt
 obtain⟨es,clock,h1,r⟩:=h
 exact⟨es,clock,(ho.block b hl hb).trans h1,r⟩
theorem made (w:World):IMap (w.alloc (.map #[] 0)) w.heap.size (fun _=>none) 0:=
 ⟨#[],0,(heap_alloc w _).1,rfl,stamped_empty 0,by simp,by simp⟩
theorem keys {es:Array MapEntry} {clock:Nat} (h:Ents es clock G):∀e∈es.toList,∃l,keyOf Tryz.prog 3 e.key=some l:=fun e he=>by
 obtain⟨k,hk,hk2,_⟩:=h.key e he
 exact⟨_,by rw[hk2];exact kofI hk⟩
theorem i64 (h:IMap w b G c) {k:Int} {v:Value} (hk:G k=some v):I64 k:=by obtain⟨es,clock,_,_,hE⟩:=h;exact(hE.all k v hk).1
theorem ext {G':Int->Option Value} (h:IMap w b G c) (he:∀k,G k=G' k):IMap w b G' c:=by
 have:G=G':=funext he
 rw[<-this];exact h
theorem look {T V:TypeId} {z:Value} (hT:Tryz.prog.underlying T=some (.map 3 V)) (hz:∀W,(zeroValue V).run Tryz.prog W=.ok z W) (h:IMap w b G c) {k:Int} (hk:I64 k) (ok:Bool):
 (Instr.lookup T (.map (some b)) (.int .i64 k) ok).run Tryz.prog w=.ok (if ok then .tuple #[(G k).getD z,.bool (G k).isSome] else(G k).getD z) w:=by
 obtain⟨es,clock,h1,h2,hE⟩:=h
 rcases kintI.find w (kofI hk) es.toList (keys hE) with ⟨f1,f2⟩|⟨j,e,f1,f2,f3⟩
 ·have hn:G k=none:=by
   cases hg:G k with
   |none=>rfl
   |some v=>
    obtain⟨_,x,hx,hx2⟩:=hE.all k v hg
    exact absurd hx2 (f2 x hx)
  rw[hn]
  cases ok<;>simp[Instr.lookup,run_underlying hT,MapKept.run_getObj_map h1,kintI.check w _ (kofI hk),f1,hz w,Result.andThen]
 ·obtain⟨k',_,g2,g4⟩:=hE.key e (List.mem_of_getElem? f2)
  have g3:k=k':=by
   have:=f3.symm.trans g2
   simpa using this
  subst g3
  rw[g4]
  simp[Instr.lookup,run_underlying hT,MapKept.run_getObj_map h1,kintI.check w _ (kofI hk),f1,Result.andThen]
theorem put {T V:TypeId} (hT:Tryz.prog.underlying T=some (.map 3 V)) (h:IMap w b G c) {k:Int} (hk:I64 k) (v:Value):
 ∃o,(Instr.mapUpdate T (.map (some b)) (.int .i64 k) v).run Tryz.prog w=.ok () (setBlock w b o)/\IMap (setBlock w b o) b (fun j=>if j=k then some v else G j) (if(G k).isSome then c else c+1)/\Only [b] w (setBlock w b o):=by
 obtain⟨es,clock,h1,h2,hE⟩:=h
 rcases kintI.find w (kofI hk) es.toList (keys hE) with ⟨f1,f2⟩|⟨j,e,f1,f2,f3⟩
 ·have hn:G k=none:=by
   cases hg:G k with
   |none=>rfl
   |some v=>
    obtain⟨_,x,hx,hx2⟩:=hE.all k v hg
    exact absurd hx2 (f2 x hx)
  refine⟨.map (es.push ⟨.int .i64 k,v,clock⟩) (clock+1),?_,⟨_,_,(heap_set h1).1,by simp[h2,hn],stamped_push hE.st f2,fun x hx=>?_,fun k' v' hk'=>?_⟩,only_set (Only.refl _ _) h1 (by simp)⟩
  ·simp[Instr.mapUpdate,run_underlying hT,MapKept.run_getObj_map h1,kintI.check w false (kofI hk),f1,MapKept.run_setObj_map _ h1,Result.andThen,setBlock]
  ·rw[Array.toList_push,List.mem_append,List.mem_singleton] at hx
   rcases hx with hx|rfl
   ·obtain⟨k',a1,a2,a3⟩:=hE.key x hx
    refine⟨k',a1,a2,?_⟩
    try dsimp only
    rw[if_neg]
    ·exact a3
    ·rintro rfl;exact f2 x hx a2
   ·exact⟨k,hk,rfl,by simp⟩
  ·try dsimp only at hk'
   by_cases e:k'=k
   ·subst e
    exact⟨hk,⟨.int .i64 k',v,clock⟩,by simp,rfl⟩
   ·rw[if_neg e] at hk'
    obtain⟨a1,x,hx,hx2⟩:=hE.all k' v' hk'
    exact⟨a1,x,by simp;exact .inl (by simpa using hx),hx2⟩
 ·obtain⟨k',hk',g2,g4⟩:=hE.key e (List.mem_of_getElem? f2)
  have g2':=g2
  rw[f3] at g2
  injection g2 with _ g2
  subst g2
  have hj:es[j]? =some e:=by simpa using f2
  have hkey:∀e',es[j]? =some e'->({e' with key:=.int .i64 k,val:=v}:MapEntry).key=e'.key:=fun e' he'=>by rw[hj] at he';cases he';exact f3.symm
  refine⟨.map (es.modify j fun e=>{e with key:=.int .i64 k,val:=v}) clock,?_,⟨_,_,(heap_set h1).1,by simp[h2,g4],stamped_modify hE.st _ _ (fun _ _=>rfl) (fun e' _ he'=>hkey e' he'),fun x hx=>?_,fun k' v' hk'=>?_⟩,only_set (Only.refl _ _) h1 (by simp)⟩
  ·simp[Instr.mapUpdate,run_underlying hT,MapKept.run_getObj_map h1,kintI.check w false (kofI hk),f1,hj,f3,kintI.stays w (kofI hk),MapKept.run_setObj_map _ h1,Result.andThen,setBlock]
  ·obtain⟨i,hi,rfl⟩:=List.getElem_of_mem hx
   rw[Array.length_toList] at hi
   rw[Array.getElem_toList,Array.getElem_modify]
   have hi':i<es.size:=by simpa using hi
   by_cases e1:j=i
   ·rw[if_pos e1]
    exact⟨k,hk,rfl,by simp⟩
   ·rw[if_neg e1]
    obtain⟨k2,a1,a2,a3⟩:=hE.key es[i] (by simp)
    refine⟨k2,a1,a2,?_⟩
    try dsimp only
    rw[if_neg]
    ·exact a3
    ·rintro rfl
     have hnd:=hE.st.2.2
     have hje:es.toList[j]? =some e:=f2
     have hjl:j<es.toList.length:=(List.getElem?_eq_some_iff.1 hje).1
     have he:es.toList[j]=e:=(List.getElem?_eq_some_iff.1 hje).2
     have:=(List.pairwise_iff_getElem.1 (List.pairwise_map.1 hnd))
     rcases Nat.lt_or_gt_of_ne e1 with h|h
     ·exact this j i hjl (by simpa using hi') h (by rw[he,f3];simpa using a2.symm)
     ·exact this i j (by simpa using hi') hjl h (by rw[he,f3];simpa using a2)
  ·try dsimp only at hk'
   have hjs:j<es.size:=(Array.getElem?_eq_some_iff.1 hj).1
   by_cases e2:k'=k
   ·subst e2
    exact⟨hk,{e with key:=.int .i64 k',val:=v},by
     rw[Array.mem_toList_iff,Array.mem_iff_getElem]
     exact⟨j,by simpa using hjs,by rw[Array.getElem_modify,if_pos rfl,(Array.getElem?_eq_some_iff.1 hj).2]⟩,rfl⟩
   ·rw[if_neg e2] at hk'
    obtain⟨a1,x,hx,hx2⟩:=hE.all k' v' hk'
    obtain⟨i,hi,hix⟩:=List.getElem_of_mem hx
    rw[Array.length_toList] at hi
    have hij:j≠i:=by
     rintro rfl
     rw[Array.getElem_toList,(Array.getElem?_eq_some_iff.1 hj).2] at hix
     rw[<-hix,f3] at hx2
     injection hx2 with _ hx2
     exact e2 hx2.symm
    exact⟨a1,x,by
     rw[Array.mem_toList_iff,Array.mem_iff_getElem]
     exact⟨i,by simpa using hi,by rw[Array.getElem_modify,if_neg hij];simpa using hix⟩,hx2⟩
theorem del {T V:TypeId} (hT:Tryz.prog.underlying T=some (.map 3 V)) (h:IMap w b G c) {k:Int} (hk:I64 k) (ty:TypeId):
 ∃o,(Builtin.delete_ #[T,3] ty #[.map (some b),.int .i64 k]).run Tryz.prog w=.ok (.tuple #[]) (setBlock w b o)/\IMap (setBlock w b o) b (fun j=>if j=k then none else G j) (if(G k).isSome then c-1 else c)/\Only [b] w (setBlock w b o):=by
 obtain⟨es,clock,h1,h2,hE⟩:=h
 rcases kintI.find w (kofI hk) es.toList (keys hE) with ⟨f1,f2⟩|⟨j,e,f1,f2,f3⟩
 ·have hn:G k=none:=by
   cases hg:G k with
   |none=>rfl
   |some v=>
    obtain⟨_,x,hx,hx2⟩:=hE.all k v hg
    exact absurd hx2 (f2 x hx)
  refine⟨.map es clock,?_,⟨es,clock,(heap_set h1).1,by simp[hn,h2],hE.st,fun x hx=>?_,fun k' v' hk'=>?_⟩,only_set (Only.refl _ _) h1 (by simp)⟩
  ·simp[Builtin.delete_,run_underlying hT,MapKept.run_getObj_map h1,kintI.check w _ (kofI hk),f1,MapKept.run_setObj_map _ h1,Result.andThen,setBlock]
  ·obtain⟨k',a1,a2,a3⟩:=hE.key x hx
   refine⟨k',a1,a2,?_⟩
   try dsimp only
   rw[if_neg]
   ·exact a3
   ·rintro rfl;exact f2 x hx a2
  ·try dsimp only at hk'
   by_cases e:k'=k
   ·rw[if_pos e] at hk';cases hk'
   ·rw[if_neg e] at hk'
    exact hE.all k' v' hk'
 ·obtain⟨k0,hk0,g2,g4⟩:=hE.key e (List.mem_of_getElem? f2)
  rw[f3] at g2
  injection g2 with _ g2
  subst g2
  have hjl:j<es.toList.length:=(List.getElem?_eq_some_iff.1 f2).1
  have hjs:j<es.size:=by simpa using hjl
  have hsub:(es.eraseIdxIfInBounds j).toList=es.toList.eraseIdx j:=by
   unfold Array.eraseIdxIfInBounds
   rw[dif_pos hjs]
   simp
  have hej:es.toList[j]=e:=by rw[List.getElem?_eq_getElem hjl] at f2;exact Option.some.inj f2
  have h3:=List.pairwise_map.1 hE.st.2.2
  have hmem:∀x,x∈es.toList.eraseIdx j↔x∈es.toList/\x.key≠ .int .i64 k:=by
   intro x
   rw[List.mem_eraseIdx_iff_getElem]
   constructor
   ·rintro ⟨i,hi,hne,rfl⟩
    refine⟨List.getElem_mem hi,?_⟩
    rw[<-f3,<-hej]
    rcases Nat.lt_or_gt_of_ne hne with hl|hl
    ·exact List.pairwise_iff_getElem.1 h3 i j hi hjl hl
    ·exact(List.pairwise_iff_getElem.1 h3 j i hjl hi hl).symm
   ·rintro ⟨hx,hne⟩
    obtain⟨i,hi,rfl⟩:=List.getElem_of_mem hx
    refine⟨i,hi,?_,rfl⟩
    rintro rfl
    rw[hej,f3] at hne
    exact hne rfl
  refine⟨.map (es.eraseIdxIfInBounds j) clock,?_,⟨_,clock,(heap_set h1).1,?_,stamped_erase hE.st j,fun x hx=>?_,fun k' v' hk'=>?_⟩,only_set (Only.refl _ _) h1 (by simp)⟩
  ·simp[Builtin.delete_,run_underlying hT,MapKept.run_getObj_map h1,kintI.check w _ (kofI hk),f1,MapKept.run_setObj_map _ h1,Result.andThen,setBlock]
  ·rw[g4]
   have:(es.eraseIdxIfInBounds j).size=(es.toList.eraseIdx j).length:=by rw[<-hsub,Array.length_toList]
   rw[this,List.length_eraseIdx_of_lt hjl,Array.length_toList,h2]
   rfl
  ·rw[hsub] at hx
   obtain⟨hx1,hx2⟩:=(hmem x).1 hx
   obtain⟨k',a1,a2,a3⟩:=hE.key x hx1
   refine⟨k',a1,a2,?_⟩
   try dsimp only
   rw[if_neg]
   ·exact a3
   ·rintro rfl;exact hx2 a2
  ·try dsimp only at hk'
   by_cases e:k'=k
   ·rw[if_pos e] at hk';cases hk'
   ·rw[if_neg e] at hk'
    obtain⟨a1,x,hx,hx2⟩:=hE.all k' v' hk'
    refine⟨a1,x,?_,hx2⟩
    rw[hsub,hmem]
    refine⟨hx,?_⟩
    rw[hx2]
    intro e2
    injection e2 with _ e2
    exact e e2
theorem len {T V:TypeId} (hT:Tryz.prog.underlying T=some (.map 3 V)) (h:IMap w b G c) (ty:TypeId):(Builtin.len_ #[T] ty #[.map (some b)]).run Tryz.prog w=.ok (.int .i64 c) w:=by
 obtain⟨es,clock,h1,h2,_⟩:=h
 simp[Builtin.len_,run_underlying hT,MapKept.run_getObj_map h1,goInt,h2,Result.andThen]
theorem zero (h:IMap w b G 0) (k:Int):G k=none:=by
 obtain⟨es,clock,h1,h2,hE⟩:=h
 cases hg:G k with
 |none=>rfl
 |some v=>
  obtain⟨_,x,hx,_⟩:=hE.all k v hg
  have:es=#[]:=Array.eq_empty_of_size_eq_zero h2
  subst this
  simp at hx
theorem pos (h:IMap w b G c) (hc:0<c):∃k v,I64 k/\G k=some v:=by
 obtain⟨es,clock,h1,h2,hE⟩:=h
 obtain⟨k,a1,_,a3⟩:=hE.key es[0] (by simp)
 exact⟨k,_,a1,a3⟩
end IMap
end Go.Proofs.YtcidjimefnhacaaGreatDoor
namespace Go.Proofs.YtcidjimefnhacaaGreatDoor
open Go.RowKit
def bG (B:Nat->Int->Bool) (k:Nat):Int->Option Value:=fun s=>if B k s=true then some (.bool true) else none
structure BGood (B:Nat->Int->Bool):Prop where
 wf:∀k s,B k s=true->k<9/\0<=s/\s%2 ^ k=0/\s+2 ^ k<=256
 ap:∀k s k' s',B k s=true->B k' s'=true->(k≠k'\/s≠s')->s+2 ^ k<=s'\/s'+2 ^ k'<=s
def bF (B:Nat->Int->Bool) (p:Int):Prop:=∃k s,B k s=true/\s<=p/\p<s+2 ^ k
structure BuSt (p:Nat) (B:Nat->Int->Bool) (w:World) (fp:List Nat):Prop where
 good:BGood B
 ex:∃(g cp:Nat) (m:Nat->Nat) (c:Nat->Nat),Blk w p 173 #[.int .i64 256,.slice (some ⟨g,0,none⟩) 9 cp]/\9<=cp/\V.Row w g 9 (fun k=>.map (some (m k)))/\(∀k,k<9->IMap w (m k) (bG B k) (c k))/\
  (∀k k',k<9->k'<9->m k=m k'->k=k')/\(∀k,k<9->m k≠p/\m k≠g)/\p≠g/\(∀b,b∈fp↔b=p\/b=g\/∃k,k<9/\b=m k)
theorem BuSt.framed (p:Nat) (B:Nat->Int->Bool):Framed (BuSt p B):=by
 constructor
 ·rintro w w' fp l ⟨h1,g,cp,m,c,a1,a2,a3,a4,a5,a6,a7,a8⟩ ho hb
  exact⟨h1,g,cp,m,c,a1.only ho (hb _ ((a8 _).2 (.inl rfl))),a2,a3.only ho (hb _ ((a8 _).2 (.inr (.inl rfl)))),fun k hk=>(a4 k hk).only ho (hb _ ((a8 _).2 (.inr (.inr ⟨k,hk,rfl⟩)))),a5,a6,a7,a8⟩
 ·rintro w fp ⟨h1,g,cp,m,c,a1,a2,a3,a4,a5,a6,a7,a8⟩ b hb
  rcases (a8 b).1 hb with rfl|rfl|⟨k,hk,rfl⟩
  ·exact a1.lt
  ·exact a3.lt
  ·exact(a4 k hk).lt
theorem bmade_at {p:Nat} {B:Nat->Int->Bool} {w:World} {fp:List Nat} (h:BuSt p B w fp):Still Tryz.prog 155 #[.pointer (some ⟨p,0,none⟩)] w (.bool true):=by
 obtain⟨h1,g,cp,m,c,a1,a2,a3,a4,a5,a6,a7,a8⟩:=h
 have z0:=a1.cell_ 0 rfl
 clear a1 a3 a4 a8
 go_enter Tryz.func155,Tryz.ntmps155
 go_wp2_with fail
 go_ret
 exact⟨rfl,rfl⟩
theorem und_mib:Tryz.prog.underlying 174=some (.map 3 4):=by kernel_rfl
theorem zero_bool (W:World):(zeroValue 4).run Tryz.prog W=.ok (.bool false) W:=by kernel_rfl
def pl (k:Nat) (x:Int):Int:=x/2 ^ k*2 ^ k
theorem pow_le {k:Nat} (hk:k<9):(1:Int)<=2 ^ k/\(2:Int) ^ k<=256:=by
 rcases (show k=0\/k=1\/k=2\/k=3\/k=4\/k=5\/k=6\/k=7\/k=8 by omega) with rfl|rfl|rfl|rfl|rfl|rfl|rfl|rfl|rfl<;>decide
theorem pl_le {k:Nat} (hk:k<9) {x:Int} (h0:0<=x):0<=pl k x/\pl k x<=x/\x<pl k x+2 ^ k/\pl k x%2 ^ k=0:=by
 obtain⟨p1,p2⟩:=pow_le hk
 unfold pl
 generalize (2:Int) ^ k=q at *
 have h1:=Int.mul_ediv_add_emod x q
 have h2:=Int.emod_lt_of_pos x (show 0<q by omega)
 have h3:=Int.emod_nonneg x (show q≠0 by omega)
 have h4:0<=x/q:=Int.ediv_nonneg h0 (by omega)
 have h5:0<=x/q*q:=Int.mul_nonneg h4 (by omega)
 have h6:q*(x/q)=x/q*q:=Int.mul_comm _ _
 refine⟨h5,by omega,by omega,?_⟩
 rw[Int.mul_emod_left]
def covP (B:Nat->Int->Bool) (x:Int) (e:Ending):Prop:=
 (∃k s,B k s=true/\s<=x/\x<s+2 ^ k/\e=.returned (.tuple #[.int .i64 (k:Nat),.int .i64 s,.bool true]))\/(¬bF B x/\e=.returned (.tuple #[.int .i64 0,.int .i64 0,.bool false]))
theorem bF_pl {B:Nat->Int->Bool} (hg:BGood B) {x:Int} (h0:0<=x) (h:bF B x):∃k,k<9/\B k (pl k x)=true:=by
 obtain⟨k,s,h1,h2,h3⟩:=h
 obtain⟨hk,h4,h5,h6⟩:=hg.wf k s h1
 refine⟨k,hk,?_⟩
 have:pl k x=s:=by
  obtain⟨p1,p2⟩:=pow_le hk
  unfold pl
  generalize (2:Int) ^ k=q at *
  have e1:=Int.mul_ediv_add_emod s q
  rw[h5,Int.add_zero] at e1
  have e2:x/q=s/q:=by
   have:x=(x-s)+q*(s/q):=by omega
   rw[this,Int.add_mul_ediv_left _ _ (by omega),Int.ediv_eq_zero_of_lt (by omega) (by omega)]
   omega
  rw[e2,Int.mul_comm]
  exact e1
 rw[this]
 exact h1
theorem wpList_look {w:World} {ops:Array Oper} {rest:List Oper} {o:Oper} {a:Act} {Q:Exit->Act->World->Prop} (hgd:o.guard=none) (T V:TypeId) (mm x:Operand) (ho:o.op=.lookup T mm x false) {z:Value} (hT:Tryz.prog.underlying T=some (.map 3 V)) (hz:∀W,(zeroValue V).run Tryz.prog W=.ok z W)
 {b c:Nat} {G:Int->Option Value} (hm:a.eval mm=.map (some b)) (hI:IMap w b G c) {k:Int} (hx:a.eval x=.int .i64 k) (hk:I64 k)
 (h:wpList Tryz.prog ops Q rest (a.put o.dst ((G k).getD z)) w):wpList Tryz.prog ops Q (o::rest) a w:=by
 refine wpList_plain hgd fun K hK=>?_
 have hl:=hI.look hT hz hk false
 unfold Oper.wp
 simp only[Bool.false_eq_true,if_false] at hl
 simp[execOp,ho,hm,hx,hl,Result.andThen]
 exact hK _ _ h
theorem bG_get (B:Nat->Int->Bool) (k:Nat) (s:Int):(bG B k s).getD (.bool false)=.bool (B k s):=by
 unfold bG
 cases h:B k s<;>simp
theorem wpList_lookB {w:World} {ops:Array Oper} {rest:List Oper} {o:Oper} {a:Act} {Q:Exit->Act->World->Prop} (hgd:o.guard=none) (mm x:Operand) (ho:o.op=.lookup 174 mm x false)
 {b c k:Nat} {B:Nat->Int->Bool} (hm:a.eval mm=.map (some b)) (hI:IMap w b (bG B k) c) {s:Int} (hx:a.eval x=.int .i64 s) (hs:I64 s) {v:Bool} (hv:B k s=v)
 (h:wpList Tryz.prog ops Q rest (a.put o.dst (.bool v)) w):wpList Tryz.prog ops Q (o::rest) a w:=
 wpList_look hgd _ _ mm x ho und_mib zero_bool hm hI hx hs (by rw[bG_get,hv];exact h)
set_option maxHeartbeats 1000000 in
theorem bcovered_at {p:Nat} {B:Nat->Int->Bool} {w:World} {fp:List Nat} (h:BuSt p B w fp) (x:Nat) (hx:x<256):Calls Tryz.prog 185 #[.pointer (some ⟨p,0,none⟩),.int .i64 x] w fun e w'=>w'=w/\covP B x e:=by
 obtain⟨h1,g,cp,m,c,a1,a2,a3,a4,a5,a6,a7,a8⟩:=h
 have z1:=a1.cell_ 1 rfl
 have A3:=Lib.hid a3
 have A4:=Lib.hid a4
 have HG:=Lib.hid h1
 clear a1 a3 a4 a5 a6 a8 h1
 go_enter Tryz.func185,Tryz.ntmps185
 go_wp2_with fail
 go_loopw[15] (fun t wr=>∃k:Nat,k<=9/\t=.int .i64 k/\wr=w/\∀j,j<k->B j (pl j x)=false) (fun t _=>9-(intOf t).toNat)
 case atStart=>exact⟨0,Nat.zero_le _,rfl,rfl,fun j hj=>absurd hj (by omega)⟩
 case round=>
  obtain⟨k,hk,rfl,rfl,hF⟩:=hrel
  have HF:=Lib.hid hF
  clear hF
  by_cases hlt:k<9
  ·have d1:decide ((k:Int)<9)=true:=decide_eq_true (by omega)
   have c0:=A3.out.cell hlt
   obtain⟨p1,p2,p3,_⟩:=pl_le hlt (x:=(x:Int)) (by omega)
   have w1:IntKind.i64.wrap ((x:Int)/2 ^ k*2 ^ k)=pl k x:=IntWalk.i64_in _ (by unfold pl at p1 p2;omega)
   have hs:I64 (pl k x):=by unfold I64;omega
   have HI:=Lib.hid (A4.out k hlt)
   have HP:=Lib.hid (And.intro p2 p3)
   cases hb:B k (pl k x) with
   |true=>
    have HB:=Lib.hid hb
    generalize pl k (x:Int)=s at *
    clear hb p1 p2 p3
    go_wp2_with (at_lookup;refine wpList_lookB rfl _ _ rfl rfl HI.out rfl hs HB.out ?_)
    exact bodyPost_ret (v:=.tuple #[.int .i64 (k:Nat),.int .i64 s,.bool true]) (by simp[results,Tryz.results185,go_sem]) rfl ⟨by first|rfl|trivial,.inl ⟨k,s,HB.out,HP.out.1,HP.out.2,rfl⟩⟩
   |false=>
    have HB:=Lib.hid hb
    have HF2:=Lib.hid (show ∀j,j<k+1->B j (pl j x)=false from fun j hj=>by
     by_cases e:j=k
     ·rw[e];exact hb
     ·exact HF.out j (by omega))
    generalize pl k (x:Int)=s at *
    clear hb p1 p2 p3
    go_wp2_with (at_lookup;refine wpList_lookB rfl _ _ rfl rfl HI.out rfl hs HB.out ?_)
    go_roundw
    case rel=>exact⟨k+1,by omega,by go_num,by first|rfl|trivial,HF2.out⟩
    case measure=>simp[intOf];omega
  ·have e:k=9:=by omega
   subst e
   go_wp2_with fail
   exact bodyPost_ret (v:=.tuple #[.int .i64 0,.int .i64 0,.bool false]) (by simp[results,Tryz.results185,go_sem]) rfl ⟨by first|rfl|trivial,.inr ⟨(fun hf=>(by
    obtain⟨k,hk,h⟩:=bF_pl HG.out (by omega) hf
    rw[HF.out k hk] at h
    exact absurd h (by decide))),rfl⟩⟩
theorem bisFree_at {p:Nat} {B:Nat->Int->Bool} {w:World} {fp:List Nat} (h:BuSt p B w fp) (x:Nat) (hx:x<256):Calls Tryz.prog 176 #[.pointer (some ⟨p,0,none⟩),.int .i64 x] w fun e w'=>w'=w/\((bF B x/\e=.returned (.bool true))\/(¬bF B x/\e=.returned (.bool false))):=by
 have CM:=Lib.hid (bmade_at h)
 have CC:=Lib.hid (bcovered_at h x hx)
 obtain⟨h1,g,cp,m,c,a1,a2,a3,a4,a5,a6,a7,a8⟩:=h
 have z0:=a1.cell_ 0 rfl
 have d1:decide ((x:Int)<0)=false:=decide_eq_false (by omega)
 have d2:decide (256<=(x:Int))=false:=decide_eq_false (by omega)
 clear a1 a3 a4 a5 a6 a8 h1
 go_enter Tryz.func176,Tryz.ntmps176
 go_wp2_with (first|(go_at_call 155;with_reducible refine Still.use CM.out ?_))
 refine CC.out.mono ?_
 rintro e w1 ⟨rfl,⟨k,s,h1,h2,h3,rfl⟩|⟨h1,rfl⟩⟩
 ·have HF:Hid (bF B x):=⟨k,s,h1,h2,h3⟩
  clear h1 h2 h3
  go_wp2_with fail
  go_ret
  exact⟨by first|rfl|trivial,.inl ⟨HF.out,rfl⟩⟩
 ·have HF:=Lib.hid h1
  clear h1
  go_wp2_with fail
  go_ret
  exact⟨by first|rfl|trivial,.inr ⟨HF.out,rfl⟩⟩
end Go.Proofs.YtcidjimefnhacaaGreatDoor
