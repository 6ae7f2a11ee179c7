/- TopSchedules, a part of the proof: Dh, Di, Dj, Dk, Dl, Dm, Dn, Do, Dp. -/
import Derived.Test.YtcidjimefnhacaaGreatDoorM19
import Derived.Maps.RangeWalk
import Derived.Test.YtcidjimefnhacaaGreatDoorM03
import Derived.Shelf.SlSortCmp.WholeK
set_option linter.unusedVariables false
set_option linter.unusedSimpArgs false
namespace Go.Proofs.YtcidjimefnhacaaGreatDoor
open Go.RowKit
theorem LiSt.set1 {p:Nat} {e:CLp} {w:World} {fp:List Nat} (h:LiSt p e w fp) (l:Int) (h1:1<=l) (h2:l<=128):LiSt p {e with lim:=l} (w.setCell ⟨p,1,none⟩ (.int .i64 l)) fp/\Only [p] w (w.setCell ⟨p,1,none⟩ (.int .i64 l))/\p∈fp:=by
 obtain⟨ok,hlt,v,os,a1,a2,a3,a4,a5⟩:=h
 have oS:Only [p] w (w.setCell ⟨p,1,none⟩ (.int .i64 l)):=(Only.refl [p] w).setCell (p:=⟨p,1,none⟩) (.inl (by simp)) _
 exact⟨⟨⟨ok.ln,h1,h2,ok.w0,ok.w1⟩,fun b hb=>Nat.lt_of_lt_of_le (hlt b hb) oS.size,v,os,a1.set_ 1 _,a2.only oS (fun b hb=>by simp;rintro rfl;exact a3 hb),a3,a4,a5⟩,oS,a4⟩
theorem LiSt.set2 {p:Nat} {e:CLp} {w:World} {fp:List Nat} (h:LiSt p e w fp) (l:Int) (h1:0<=l) (h2:l<=e.o.length):LiSt p {e with low:=l} (w.setCell ⟨p,2,none⟩ (.int .i64 l)) fp/\Only [p] w (w.setCell ⟨p,2,none⟩ (.int .i64 l))/\p∈fp:=by
 obtain⟨ok,hlt,v,os,a1,a2,a3,a4,a5⟩:=h
 have oS:Only [p] w (w.setCell ⟨p,2,none⟩ (.int .i64 l)):=(Only.refl [p] w).setCell (p:=⟨p,2,none⟩) (.inl (by simp)) _
 exact⟨⟨⟨ok.ln,ok.l1,ok.l2,h1,h2⟩,fun b hb=>Nat.lt_of_lt_of_le (hlt b hb) oS.size,v,os,a1.set_ 2 _,a2.only oS (fun b hb=>by simp;rintro rfl;exact a3 hb),a3,a4,a5⟩,oS,a4⟩
theorem LiSt.set02 {p:Nat} {e:CLp} {w:World} {fp:List Nat} (h:LiSt p e w fp) {A:Option Addr} {n c:Nat} {o':List Int} {l:Int} (hc:w.cell? ⟨p,0,none⟩=some (.slice A n c)) {v':Value} (hv:∀os,OSl w (.slice A n c) os e.o->OSl w v' os o') (hn:o'.length<=256) (h1:0<=l) (h2:l<=o'.length):
 LiSt p {e with o:=o',low:=l} ((w.setCell ⟨p,0,none⟩ v').setCell ⟨p,2,none⟩ (.int .i64 l)) fp/\Only [p] w ((w.setCell ⟨p,0,none⟩ v').setCell ⟨p,2,none⟩ (.int .i64 l))/\p∈fp:=by
 obtain⟨ok,hlt,v,os,a1,a2,a3,a4,a5⟩:=h
 have e1:=a1.cell_ 0 rfl
 rw[hc] at e1
 injection e1 with e1
 subst e1
 have oS:Only [p] w ((w.setCell ⟨p,0,none⟩ v').setCell ⟨p,2,none⟩ (.int .i64 l)):=((Only.refl [p] w).setCell (p:=⟨p,0,none⟩) (.inl (by simp)) _).setCell (p:=⟨p,2,none⟩) (.inl (by simp)) _
 exact⟨⟨⟨hn,ok.l1,ok.l2,h1,h2⟩,fun b hb=>Nat.lt_of_lt_of_le (hlt b hb) oS.size,v',os,(a1.set_ 0 v').set_ 2 _,(hv os a2).only oS (fun b hb=>by simp;rintro rfl;exact a3 hb),a3,a4,a5⟩,oS,a4⟩
def CDone (q:Nat) (T:List Z.Cl) (bud:Int) (C:Int->Option CE) (k:Int) (w:World) (fp:List Nat) (x:CE) (e':CLp) (w':World):Prop:=cOf C k x.p k=some x/\Turns (CaSt q T bud (cSet (cOf C k x.p) k ⟨x.p,e'⟩)) w fp w'
theorem CDone.of {q:Nat} {T:List Z.Cl} {bud:Int} {C:Int->Option CE} {k:Int} {w w1 w2:World} {fp:List Nat} {p:Nat} {e e':CLp} {f fp1 f':List Nat} (h1:cOf C k p k=some ⟨p,e⟩) (hff:∀b∈f,b∈fp1) (q1:Only fp w w1) (q2:∀b∈fp1,b∈fp\/w.heap.size<=b)
 (hl:∀(e':CLp) (w':World) (f':List Nat),Only f w1 w'->LiSt p e' w' f'->(∀b∈f',b∈f\/w1.heap.size<=b)->CaSt q T bud (cSet (cOf C k p) k ⟨p,e'⟩) w' (fp1.filter (fun b=>decide (b∉f))++f'))
 (r1:Only f w1 w2) (r2:LiSt p e' w2 f') (r3:∀b∈f',b∈f\/w1.heap.size<=b):CDone q T bud C k w fp ⟨p,e⟩ e' w2:=by
 refine⟨h1,q1.then_ r1 (fun b hb=>q2 b (hff b hb)),_,hl _ _ _ r1 r2 r3,fun b hb=>?_⟩
 rcases List.mem_append.1 hb with h|h
 ·exact q2 b (List.mem_filter.1 h).1
 ·rcases r3 b h with h|h
  ·exact q2 b (hff b h)
  ·exact .inr (Nat.le_trans q1.size h)
set_option maxHeartbeats 2000000 in
theorem ctake_at {q:Nat} {T:List Z.Cl} {bud:Int} {C:Int->Option CE} {w:World} {fp:List Nat} (h:CaSt q T bud C w fp) (k:Nat) (hk:k<T.length):
 Calls Tryz.prog 82 #[.pointer (some ⟨q,0,none⟩),.int .i64 k] w fun r w'=>∃(x:CE) (e':CLp),CDone q T bud C k w fp x e' w'/\
  ((∃a,r=.returned (.tuple #[.int .i64 a,.int .i64 0])/\x.e.o=e'.o++[a])\/(r=.returned (.tuple #[.int .i64 0,.int .i64 4])/\e'.o=x.e.o)):=by
 have CF:=Lib.hid (cfind_at h k hk)
 have HK:=Lib.hid hk
 have hk40:k<40:=by have:=h.tab.2.1;omega
 clear h hk
 go_enter Tryz.func82,Tryz.ntmps82
 go_wp2_with fail
 refine CF.out.mono ?_
 rintro r w1 ⟨x,rfl,h1,h2⟩
 obtain⟨q1,fp1,hs,q2⟩:=h2
 obtain⟨p,e⟩:=x
 obtain⟨f,hl,hff,hlift⟩:=hs.lift h1
 obtain⟨A,c,l0,l1,l2,hc,ho,hfz⟩:=hl.cells
 have hok:=hl.ok
 obtain⟨ta,tc,gm,t0,t1,t2,s0,s1,s2,sok⟩:=hs.tabs HK.out
 have hkn:=HK.out
 obtain⟨o1,o2,o3,o4,o5,o6,o7,o8⟩:=sok
 have b1:=hok.l1
 have b2:=hok.l2
 have b3:=hok.ln
 have b4:=hok.w0
 have b5:=hok.w1
 have HD:=Lib.hid (fun (e':CLp) (w2:World) (f':List Nat) (r1:Only f w1 w2) (r2:LiSt p e' w2 f') (r3:∀b∈f',b∈f\/w1.heap.size<=b)=>CDone.of h1 hff q1 q2 hlift r1 r2 r3)
 have HL:=Lib.hid hl
 have HO:=Lib.hid ho
 have f0:=hfz 0
 have f1:=hfz 1
 have f2:=hfz 2
 generalize hb:(Z.cAt T k).b=b at *
 obtain⟨n,hn⟩:∃n,n=e.o.length:=⟨_,rfl⟩
 have HN:=Lib.hid hn
 rw[<-hn] at l0 b3 b5 hc
 clear hs hl hok h1 CF hff q1 q2 hlift ho hfz hb hn
 generalize T.length=tn at *
 by_cases hz:n=0
 ·subst hz
  by_cases hlb:e.lim<b
  ·have d1:decide (e.lim<b)=true:=decide_eq_true hlb
   have w0:IntKind.i64.wrap (e.lim+1)=e.lim+1:=IntWalk.i64_in _ (by omega)
   go_wp2_with fail
   go_ret2
   obtain⟨y1,y2,y3⟩:=HL.out.set1 (e.lim+1) (by omega) (by omega)
   exact⟨⟨p,e⟩,_,HD.out _ _ _ (y2.mono (fun x hx=>by simp at hx;subst hx;exact y3)) y1 (fun b hb=>.inl hb),.inr ⟨rfl,rfl⟩⟩
  ·have d1:decide (e.lim<b)=false:=decide_eq_false hlb
   have w0:IntKind.i64.wrap (e.lim+b)=e.lim+b:=IntWalk.i64_in _ (by omega)
   go_wp2_with fail
   go_ret2
   obtain⟨y1,y2,y3⟩:=HL.out.set1 (min (e.lim+b) 128) (by omega) (by omega)
   exact⟨⟨p,e⟩,_,HD.out _ _ _ (y2.mono (fun x hx=>by simp at hx;subst hx;exact y3)) y1 (fun b hb=>.inl hb),.inr ⟨rfl,rfl⟩⟩
 ·have dz:((n:Int)==0)=false:=beq_eq_false_iff_ne.2 (by omega)
  have dz':(n==0)=false:=beq_eq_false_iff_ne.2 hz
  obtain⟨m,hm⟩:∃m:Nat,m+1=n:=⟨n-1,by omega⟩
  have wm:IntKind.i64.wrap ((n:Int)-1)=m:=by rw[IntWalk.i64_in _ (by omega)];omega
  have hmn:m<n:=by omega
  have hmi:(m:Int)<n:=by omega
  obtain⟨i0,hi,hz0,hz1,hz2⟩:=info_parts info_int
  have ho:=HO.out
  rw[<-HN.out] at ho
  rcases ho with ⟨hnil,_⟩|⟨_,b0,hb0,⟨off,cap,hcap,hle,hcel⟩,hblt⟩
  ·exact absurd (by rw[HN.out,hnil];rfl:n=0) hz
  rw[<-HN.out] at hcap hle
  injection hcap with e1 _ e3
  subst e1 e3
  have cm:=hcel m (by rw[<-HN.out];exact hmn)
  generalize hx:e.o.getD m 0=xa at *
  have HOT:=Lib.hid (show ∀os,OSl w1 (.slice (some ⟨b0,off,none⟩) n c) os e.o->OSl w1 (sliced (some ⟨b0,off,none⟩) 0 m c 1) os (e.o.take m) from fun os h=>h.take (by rw[<-HN.out];omega))
  have HXA:=Lib.hid hx
  have HM:=Lib.hid hm
  clear hcel hx hm hb0 hblt
  go_wp2_with (refine wpList_slice_to rfl 37 _ _ rfl 3 elem_ints Tryz.underlying37 i0 hi hz1 _ _ _ _ rfl rfl (by omega) ?_;intro vs hvs;have hot:=HOT.out;rw[<-hvs] at hot;clear hvs;obtain⟨A3,c3,rfl,_,_⟩:=(hot f (by rw[HN.out];exact HO.out)).form)
  go_ret2
  have hml:min m e.o.length=(e.o.take m).length:=by rw[List.length_take]
  rw[hml]
  have hm1:=HM.out
  have hn1:=HN.out
  obtain⟨y1,y2,y3⟩:=HL.out.set02 (o':=e.o.take m) (l:=min e.low (m:Int)) l0 hot (by rw[List.length_take];omega) (by omega) (by rw[List.length_take];omega)
  refine⟨⟨p,e⟩,_,HD.out _ _ _ (y2.mono (fun x hx=>by simp at hx;subst hx;exact y3)) y1 (fun b hb=>.inl hb),.inl ⟨xa,rfl,?_⟩⟩
  show e.o=e.o.take m++[xa]
  have h1:=List.take_append_drop m e.o
  have h2:e.o.drop m=[xa]:=by
   rw[List.drop_eq_getElem_cons (by omega),List.drop_eq_nil_of_le (by omega),<-HXA.out]
   simp[List.getD_eq_getElem?_getD,List.getElem?_eq_getElem (show m<e.o.length by omega)]
  rw[h2] at h1
  exact h1.symm
theorem GivesN.step {St Sn:World->List Nat->Prop} {w w1 w2:World} {fp fp1:List Nat} (ho:Only fp w w1) (hl:∀b∈fp1,b∈fp\/w.heap.size<=b) (h:GivesN St Sn w1 fp1 w2):GivesN St Sn w fp w2:=by
 obtain⟨h1,f,g,h2,h3,h4,h5⟩:=h
 refine⟨ho.then_ h1 hl,f,g,h2,h3,fun b hb=>?_,fun b hb=>⟨Nat.le_trans ho.size (h5 b hb).1,(h5 b hb).2⟩⟩
 rcases h4 b hb with h|h
 ·exact hl b h
 ·exact .inr (Nat.le_trans ho.size h)
theorem OSt.nil_ (w:World):OSt (.slice none 0 0) [] w []:=⟨OSl.nil _ _,by simp⟩
theorem Turns.givesN {St:World->List Nat->Prop} {w w1:World} {fp:List Nat} (h:Turns St w fp w1):GivesN St (OSt (.slice none 0 0) []) w fp w1:=by
 obtain⟨h1,f,h2,h3⟩:=h
 exact⟨h1,f,[],h2,OSt.nil_ _,h3,by simp⟩
def CGave (q:Nat) (T:List Z.Cl) (bud:Int) (C:Int->Option CE) (k:Int) (w:World) (fp:List Nat) (x:CE) (e':CLp) (v:Value) (l:List Int) (w':World):Prop:=cOf C k x.p k=some x/\GivesN (CaSt q T bud (cSet (cOf C k x.p) k ⟨x.p,e'⟩)) (OSt v l) w fp w'
theorem CGave.of {q:Nat} {T:List Z.Cl} {bud:Int} {C:Int->Option CE} {k:Int} {w w1 w2:World} {fp:List Nat} {p:Nat} {e e':CLp} {f fp1:List Nat} {v:Value} {l:List Int} (h1:cOf C k p k=some ⟨p,e⟩) (hff:∀b∈f,b∈fp1) (q1:Only fp w w1) (q2:∀b∈fp1,b∈fp\/w.heap.size<=b) (q3:∀b∈fp1,b<w1.heap.size)
 (hl:∀(e':CLp) (w':World) (f':List Nat),Only f w1 w'->LiSt p e' w' f'->(∀b∈f',b∈f\/w1.heap.size<=b)->CaSt q T bud (cSet (cOf C k p) k ⟨p,e'⟩) w' (fp1.filter (fun b=>decide (b∉f))++f'))
 (r:GivesN (LiSt p e') (OSt v l) w1 f w2):CGave q T bud C k w fp ⟨p,e⟩ e' v l w2:=by
 obtain⟨r1,f',g',r2,r3,r4,r5⟩:=r
 refine⟨h1,q1.then_ r1 (fun b hb=>q2 b (hff b hb)),_,g',hl _ _ _ r1 r2 r4,r3,fun b hb=>?_,fun b hb=>⟨Nat.le_trans q1.size (r5 b hb).1,fun h=>?_⟩⟩
 ·rcases List.mem_append.1 hb with h|h
  ·exact q2 b (List.mem_filter.1 h).1
  ·rcases r4 b h with h|h
   ·exact q2 b (hff b h)
   ·exact .inr (Nat.le_trans q1.size h)
 ·rcases List.mem_append.1 h with h|h
  ·have:=q3 b (List.mem_filter.1 h).1;have:=(r5 b hb).1;omega
  ·exact(r5 b hb).2 h
open Go.Maps Go.ChangeMaps Go.MapKept
def IRng (w:World) (b r:Nat) (G:Int->Option Value) (cnt:Nat):Prop:=
 ∃es clock since seen c0,w.heap[b]? =some (.map es clock)/\Ents es clock G/\w.heap[r]? =some (.mapIter (some b) since seen c0)/\(∀x∈es.toList,x.born<since)/\(leftOf es seen).size=cnt/\since<=c0/\since<=clock
namespace IRng
variable {w w':World} {b r cnt:Nat} {G:Int->Option Value}
theorem lt (h:IRng w b r G cnt):b<w.heap.size/\r<w.heap.size:=by
 obtain⟨es,clock,since,seen,c0,hb,_,hr,_⟩:=h
 exact⟨(Array.getElem?_eq_some_iff.1 hb).1,(Array.getElem?_eq_some_iff.1 hr).1⟩
theorem ne (h:IRng w b r G cnt):r≠b:=by
 obtain⟨es,clock,since,seen,c0,hb,_,hr,_⟩:=h
 intro e
 rw[e,hb] at hr
 cases hr
theorem only {l:List Nat} (h:IRng w b r G cnt) (ho:Only l w w') (hb':b∉l) (hr':r∉l):IRng w' b r G cnt:=by
 have h1:=h.lt
 obtain⟨es,clock,since,seen,c0,hb,hE,hr,rest⟩:=h
 exact⟨es,clock,since,seen,c0,(ho.block b h1.1 hb').trans hb,hE,(ho.block r h1.2 hr').trans hr,rest⟩
theorem left_eq (h:IRng w b r G cnt):w.rangeLeft b r=cnt:=by
 obtain⟨es,clock,since,seen,c0,hb,_,hr,_,hc,_⟩:=h
 simp only[World.rangeLeft,hb,hr]
 exact hc
theorem next (h:IRng w b r G cnt) (ty:TypeId):
 (cnt=0/\(Instr.next (.pointer (some ⟨r,0,none⟩)) false ty).run Tryz.prog w=.ok (.tuple #[.bool false]) w)\/
 ∃k v w' cnt',G k=some v/\I64 k/\(Instr.next (.pointer (some ⟨r,0,none⟩)) false ty).run Tryz.prog w=.ok (.tuple #[.bool true,.int .i64 k,v]) w'/\
  IRng w' b r G cnt'/\cnt'<cnt/\Only [r] w w'/\(Instr.entry (.pointer (some ⟨r,0,none⟩))).run Tryz.prog w'=.ok (.tuple #[.int .i64 k,v]) w':=by
 have hne:=h.ne
 obtain⟨es,clock,since,seen,c0,hb,hE,hr,hold,rfl,hsc,hsk⟩:=h
 rcases run_next_at (P:=Tryz.prog) w ty r b since c0 seen es clock hr hb hold hsc with ⟨h0,hrun⟩|⟨e,he,w1,hal,hrun⟩
 ·exact .inl ⟨h0,hrun⟩
 ·obtain⟨hem,hes⟩:=mem_left he
  obtain⟨k,a1,a2,a3⟩:=hE.key e hem
  have hr1:w1.heap[r]? =some (.mapIter (some b) since seen c0):=by rcases hal with rfl|rfl<;>exact hr
  have hb1:w1.heap[b]? =some (.map es clock):=by rcases hal with rfl|rfl<;>exact hb
  have hset:=heap_set (o':=.mapIter (some b) since (seen.push e.born) clock) hr1
  have hb':(setBlock w1 r (.mapIter (some b) since (seen.push e.born) clock)).heap[b]? =some (.map es clock):=(hset.2 b (fun e1=>hne e1.symm)).trans hb1
  have hen:=run_entry_at (P:=Tryz.prog) _ r b since seen es clock e hset.1 hb' hem ((stamped_iff es clock).1 hE.st).2.1
  rw[a2] at hrun hen
  refine .inr ⟨k,e.val,_,_,a3,a1,hrun,⟨es,clock,since,seen.push e.born,clock,hb',hE,hset.1,hold,rfl,hsk,hsk⟩,left_shrinks es seen e he,?_,hen⟩
  rcases hal with rfl|rfl
  ·exact⟨rfl,rfl,rfl,by simp[setBlock],fun i _ hi=>hset.2 i (fun e1=>hi (by rw[e1];simp))⟩
  ·exact⟨rfl,rfl,rfl,by simp[setBlock],fun i _ hi=>(hset.2 i (fun e1=>hi (by rw[e1];simp)))⟩
end IRng
theorem IMap.range {w:World} {b c:Nat} {G:Int->Option Value} {t e:TypeId} (h:IMap w b G c) (ht:Tryz.prog.underlying t=some (.map 3 e)):
 ∃w',(Instr.range t (.map (some b))).run Tryz.prog w=.ok (.pointer (some ⟨w.heap.size,0,none⟩)) w'/\IRng w' b w.heap.size G c/\Only [] w w':=by
 have hlt:=h.lt
 obtain⟨es,clock,hb,hs,hE⟩:=h
 refine⟨_,run_range_map w t 3 e b es clock ht hb,⟨es,clock,clock,#[],clock,((MapKept.heap_alloc w _).2 b hlt).trans hb,hE,(MapKept.heap_alloc w _).1,hE.st.1,?_,Nat.le_refl _,Nat.le_refl _⟩,(Only.refl [] w).alloc _⟩
 subst hs
 simp[leftOf]
theorem wpList_rangeI {w:World} {ops:Array Oper} {rest:List Oper} {o:Oper} {a:Act} {Q:Exit->Act->World->Prop} (hg:o.guard=none) (m:Operand) (t e:TypeId) (hop:o.op=Op.range t m) (ht:Tryz.prog.underlying t=some (.map 3 e)) {b c:Nat} {G:Int->Option Value}
 (hm:a.eval m=.map (some b)) (hI:IMap w b G c) (hK:∀w',IRng w' b w.heap.size G c->Only [] w w'->wpList Tryz.prog ops Q rest (a.put o.dst (.pointer (some ⟨w.heap.size,0,none⟩))) w'):wpList Tryz.prog ops Q (o::rest) a w:=by
 refine wpList_plain hg fun K' hK'=>?_
 obtain⟨w',hrun,r1,r2⟩:=hI.range ht
 unfold Oper.wp
 simp[execOp,hop,hm,hrun,Result.andThen]
 exact hK' _ _ (hK w' r1 r2)
theorem wpList_nextI {w:World} {ops:Array Oper} {rest:List Oper} {o:Oper} {a:Act} {Q:Exit->Act->World->Prop} (hg:o.guard=none) (it:Operand) (hop:o.op=Op.next it false) {b r cnt:Nat} {G:Int->Option Value}
 (hit:a.eval it=.pointer (some ⟨r,0,none⟩)) (h:IRng w b r G cnt) (hDone:cnt=0->wpList Tryz.prog ops Q rest (a.put o.dst (.tuple #[.bool false])) w)
 (hMore:∀k v w' cnt',G k=some v->I64 k->IRng w' b r G cnt'->cnt'<cnt->Only [r] w w'->(Instr.entry (.pointer (some ⟨r,0,none⟩))).run Tryz.prog w'=.ok (.tuple #[.int .i64 k,v]) w'->wpList Tryz.prog ops Q rest (a.put o.dst (.tuple #[.bool true,.int .i64 k,v])) w'):wpList Tryz.prog ops Q (o::rest) a w:=by
 refine wpList_plain hg fun K' hK'=>?_
 unfold Oper.wp
 rcases h.next o.type with ⟨h0,hrun⟩|⟨k,v,w',cnt',h1,h2,hrun,h3,h4,h5,h6⟩
 ·simp[execOp,hop,hit,hrun,Result.andThen]
  exact hK' _ _ (hDone h0)
 ·simp[execOp,hop,hit,hrun,Result.andThen]
  exact hK' _ _ (hMore k v w' cnt' h1 h2 h3 h4 h5 h6)
end Go.Proofs.YtcidjimefnhacaaGreatDoor
namespace Go.Proofs.YtcidjimefnhacaaGreatDoor
open Go.RowKit
theorem cG_some {C:Int->Option CE} {k:Int} {v:Value} (h:cG C k=some v):∃x,C k=some x/\v=.pointer (some ⟨x.p,0,none⟩):=by
 unfold cG at h
 cases hc:C k with
 |none=>rw[hc] at h;cases h
 |some x=>
  rw[hc] at h
  injection h with h
  exact⟨x,rfl,h.symm⟩
theorem CaSt.map_ {q:Nat} {T:List Z.Cl} {bud:Int} {C:Int->Option CE} {w:World} {fp:List Nat} (h:CaSt q T bud C w fp):∃gm cnt,w.cell? ⟨q,2,none⟩=some (.map (some gm))/\w.cell? ⟨q,1,none⟩=some (.int .i64 bud)/\IMap w gm (cG C) cnt/\gm∈fp:=by
 obtain⟨h1,h2,h3,h4,ta,tc,gm,cnt,ff,a1,a2,a3,a4,a5,a6,a7,a8,a9,_⟩:=h
 exact⟨gm,cnt,a1.cell_ 2 rfl,a1.cell_ 1 rfl,a4,a9⟩
set_option maxHeartbeats 2000000 in
theorem cbytes_at {q:Nat} {T:List Z.Cl} {bud:Int} {C:Int->Option CE} {w:World} {fp:List Nat} (h:CaSt q T bud C w fp):
 Calls Tryz.prog 115 #[.pointer (some ⟨q,0,none⟩)] w fun r w'=>∃n,r=.returned (.int .i64 n)/\Only [] w w':=by
 have CM:=Lib.hid (cmade_at h)
 have HH:=Lib.hid h
 obtain⟨gm,cnt,z2,_,hI,hgm⟩:=h.map_
 have HI:=Lib.hid hI
 have HGL:=Lib.hid (h.lts gm hgm)
 clear h hI hgm
 go_enter Tryz.func115,Tryz.ntmps115
 go_wp2_with (first
  |(go_at_call 114;with_reducible refine Still.use CM.out ?_)
  |(at_range;refine wpList_rangeI rfl _ _ 224 rfl und_mil rfl HI.out ?_;intro w0 hr0 ho0))
 go_frame
 go_loopw[3] (fun t wr=>∃(n:Int) (c:Nat),t=.int .i64 n/\IRng wr gm w.heap.size (cG C) c/\Only [] w wr) (fun _ wr=>wr.rangeLeft gm w.heap.size)
 case atStart=>exact⟨0,_,rfl,hr0,ho0⟩
 case round=>
  obtain⟨n,c,rfl,hr,ho⟩:=hrel
  have HO:=Lib.hid ho
  have HRL:=Lib.hid hr.left_eq
  clear ho hr0 ho0
  go_wp2_with (at_next;refine wpList_nextI rfl _ rfl rfl hr ?_ ?_)
  ·intro hc0
   go_wp2_with fail
   go_ret
   exact⟨n,rfl,HO.out⟩
  ·intro k v w2 c2 hk hk64 hr2 hlt ho2 hen
   obtain⟨x,hx,rfl⟩:=cG_some hk
   have ho2':Only [] w w2:=HO.out.then_ ho2 (fun b hb=>.inr (by simp at hb;omega))
   have hs:=(CaSt.framed _ _ _ _).still HH.out ho2'
   obtain⟨k0,k1⟩:=hs.dom k x hx
   obtain⟨j,rfl⟩:∃j:Nat,k=j:=⟨k.toNat,by omega⟩
   obtain⟨p,e⟩:=x
   obtain⟨f,hl,_,_⟩:=hs.lift hx
   obtain⟨A,cc,l0,l1,l2,_,_,_⟩:=hl.cells
   obtain⟨ta,tc,gm',t0,t1,t2,s0,s1,s2,_⟩:=hs.tabs (k:=j) (by omega)
   have hj:j<T.length:=by omega
   have HR2:=Lib.hid hr2
   have HLT:=Lib.hid hlt
   have HO2:=Lib.hid ho2'
   have ho3:=hl.ok.ln
   have hz40:=hs.tab.2.1
   generalize T.length=tn at *
   generalize e.o.length=ol at *
   clear hs hl hr2 ho2' ho2 hk hx hr HH
   go_wp2_with fail
   go_region
   go_wp2_with fail
   have oD:Only [] w2 w2.drew:=(Only.refl [] w2).drew
   have hrD:=HR2.out.only oD (by simp) (by simp)
   go_roundw
   case rel=>exact⟨_,c2,rfl,hrD,HO2.out.trans oD⟩
   case measure=>rw[hrD.left_eq,HRL.out];exact HLT.out
theorem CaSt.bud_ {q:Nat} {T:List Z.Cl} {bud:Int} {C:Int->Option CE} {w:World} {fp:List Nat} (h:CaSt q T bud C w fp):w.cell? ⟨q,1,none⟩=some (.int .i64 bud):=by obtain⟨_,_,_,h,_⟩:=h.map_;exact h
theorem cover_at {q:Nat} {T:List Z.Cl} {bud:Int} {C:Int->Option CE} {w:World} {fp:List Nat} (h:CaSt q T bud C w fp):
 Calls Tryz.prog 93 #[.pointer (some ⟨q,0,none⟩)] w fun r w'=>∃b,r=.returned (.bool b)/\Only [] w w':=by
 have hod:Only [] w w.drew:=(Only.refl [] w).drew
 have hcs:=(CaSt.framed _ _ _ _).still h hod
 clear h
 go_enter Tryz.func93,Tryz.ntmps93
 go_wp2_with fail
 go_region_held3 (fun w'=>w'.cell? ⟨q,1,none⟩=some (.int .i64 bud))
  (exact CaSt.bud_ (by assumption))
  (first
   |(go_at_call 114;with_reducible refine Still.use (cmade_at hcs) ?_)
   |(go_at_call 115;with_reducible refine Calls.mono (cbytes_at hcs) ?_;rintro _ wN ⟨nB,rfl,hoN⟩;replace hcs:=(CaSt.framed _ _ _ _).still hcs hoN;replace hod:=Only.trans hod hoN;clear hoN))
 all_goals (go_wp2_with fail)
 all_goals go_ret
 all_goals exact⟨_,rfl,hod⟩
def LGave (p:Nat) (e:CLp) (w:World) (fp:List Nat) (r:Ending) (w':World):Prop:=∃(v:Value) (l:List Int) (e':CLp),r=.returned v/\l++e'.o=e.o/\GivesN (LiSt p e') (OSt v l) w fp w'
theorem drain1_at {p:Nat} {e:CLp} {w:World} {fp:List Nat} (h:LiSt p e w fp) (b:Int):
 Calls Tryz.prog 121 #[.pointer (some ⟨p,0,none⟩),.int .i64 b] w fun r w'=>LGave p e w fp r w':=by
 have CO:=Lib.hid (oldest_at h e.o.length (Nat.le_refl _))
 obtain⟨A,c,l0,l1,l2,hc,ho,hfz⟩:=h.cells
 have hl:=h.ok.ln
 clear h hfz ho
 go_enter Tryz.func121,Tryz.ntmps121
 go_wp2_with fail
 refine CO.out.mono ?_
 rintro r w1 ⟨v,rfl,h1⟩
 have H1:=Lib.hid h1
 clear h1 CO
 go_wp2_with fail
 go_ret
 exact⟨v,_,_,rfl,List.take_append_drop _ _,H1.out⟩
set_option maxHeartbeats 1000000 in
theorem scav1_at {p:Nat} {e:CLp} {w:World} {fp:List Nat} (h:LiSt p e w fp) (b:Int) (b1:1<=b) (b2:b<=32):
 Calls Tryz.prog 117 #[.pointer (some ⟨p,0,none⟩),.int .i64 b] w fun r w'=>LGave p e w fp r w':=by
 have hok:=h.ok
 have k1:=hok.w0
 have k2:=hok.w1
 have k3:=hok.ln
 have k4:=hok.l1
 have k5:=hok.l2
 obtain⟨j,hj⟩:∃j:Nat,(j:Int)=(e.low+1)/2:=⟨((e.low+1)/2).toNat,by omega⟩
 have hjl:j<=e.o.length:=by omega
 have w0:IntKind.i64.wrap (e.low+1)=e.low+1:=IntWalk.i64_in _ (by omega)
 have hjr:Int.tdiv (e.low+1) 2=j:=by rw[hj,Int.tdiv_eq_ediv_of_nonneg (by omega)]
 have w1:IntKind.i64.wrap (j:Int)=j:=IntWalk.i64_in _ (by omega)
 have w2:IntKind.i64.wrap (e.lim-b)=e.lim-b:=IntWalk.i64_in _ (by omega)
 have CO:=Lib.hid (oldest_at h j hjl)
 obtain⟨A,c,l0,l1,l2,hc,ho,hfz⟩:=h.cells
 clear h hok hfz ho hj
 go_enter Tryz.func117,Tryz.ntmps117
 go_wp2_with fail
 refine CO.out.mono ?_
 rintro r w1 ⟨v,rfl,h1⟩
 obtain⟨o1,f1,g1,s1,t1,p1,p2⟩:=h1
 obtain⟨A1,c1,m0,m1,m2,hc1,_,hfz⟩:=s1.cells
 have f1z:=hfz 1
 have f2z:=hfz 2
 have hdl:(e.o.drop j).length<=256:=s1.ok.ln
 obtain⟨n1,hn1⟩:∃n1,n1=(e.o.drop j).length:=⟨_,rfl⟩
 dsimp only at m0 m1 m2 hc1
 rw[<-hn1] at m0 hdl hc1
 have HN1:=Lib.hid hn1
 have HX:=Lib.hid (And.intro o1 (And.intro t1 (And.intro p1 p2)))
 have S1:=Lib.hid s1
 clear o1 s1 t1 p1 p2 hfz hn1 CO l0 l1 l2
 by_cases hgt:b<e.lim
 ·have d1:decide (b<e.lim)=true:=decide_eq_true hgt
  obtain⟨y1,y2,y3⟩:=S1.out.set1 (max (e.lim-b) b) (by omega) (by omega)
  obtain⟨z1,z2,_⟩:=y1.set2 (n1:Int) (by omega) (by show(n1:Int)<=((e.o.drop j).length:Int);rw[HN1.out];exact Int.le_refl _)
  have Z1:=Lib.hid (And.intro z1 (And.intro (y2.trans z2) y3))
  clear y1 y2 y3 z1 z2
  go_wp2_with fail
  go_ret
  obtain⟨z1,z2,z3⟩:=Z1.out
  obtain⟨o1,t1,p1,p2⟩:=HX.out
  exact⟨v,_,_,rfl,List.take_append_drop j e.o,o1.then_ z2 (fun b hb=>by simp at hb;subst hb;exact p1 b z3),f1,g1,z1,(OSt.framed _ _).only t1 z2 (fun b hb=>by simp;rintro rfl;exact(p2 _ hb).2 z3),p1,p2⟩
 ·have d1:decide (b<e.lim)=false:=decide_eq_false hgt
  obtain⟨z1,z2,z3⟩:=S1.out.set2 (n1:Int) (by omega) (by show(n1:Int)<=((e.o.drop j).length:Int);rw[HN1.out];exact Int.le_refl _)
  have Z1:=Lib.hid (And.intro z1 (And.intro z2 z3))
  clear z1 z2 z3
  go_wp2_with fail
  go_ret
  obtain⟨z1,z2,z3⟩:=Z1.out
  obtain⟨o1,t1,p1,p2⟩:=HX.out
  exact⟨v,_,_,rfl,List.take_append_drop j e.o,o1.then_ z2 (fun b hb=>by simp at hb;subst hb;exact p1 b z3),f1,g1,z1,(OSt.framed _ _).only t1 z2 (fun b hb=>by simp;rintro rfl;exact(p2 _ hb).2 z3),p1,p2⟩
theorem info_cl:(Tryz.prog.info? 101).map (fun i=>(i.zero,i.size,i.bytes))=some (some (.agg #[.int .i64 0,.int .i64 0,.int .i64 0]),3,24):=by kernel_rfl
theorem own0_3 (w:World):(w.alloc (.cells #[] 101)).ownsRow w.heap.size 101 3 (.slice (some ⟨w.heap.size,0,none⟩) 0 0) 0 []:=World.ownsRow_lit w #[] 0 (Nat.le_refl _) (Nat.zero_le _) rfl
theorem tone (l:List Z.Cl):∀u∈Z.cellsC l,u.oneCell'=true:=by
 intro u hu
 obtain⟨c,_,hc⟩:=List.mem_flatMap.1 hu
 unfold Z.Cl.cells at hc
 simp at hc
 rcases hc with rfl|rfl|rfl<;>rfl
theorem tcells {w:World} {b o n:Nat} {l:List Z.Cl} (h:Z.ReadsC w (some ⟨b,o,none⟩) n l) (j:Nat) (u:Value) (hu:(Z.cellsC l)[j]? =some u):((⟨b,o,none⟩:Addr).add j).block<w.heap.size/\w.cell? ((⟨b,o,none⟩:Addr).add j)=some u:=by
 have hj:j<n*3:=by
  rcases Nat.lt_or_ge j (n*3) with h1|h1
  ·exact h1
  ·rw[List.getElem?_eq_none (by rw[Z.cellsC_length,h.1];exact h1)] at hu;cases hu
 have hk:j/3<n:=by omega
 obtain⟨ad,e,c1,c2,c3⟩:=h.at_ hk
 injection e with e
 subst e
 rw[add_pl] at c1 c2 c3 ⊢
 obtain⟨k1,k2,k3⟩:=Z.cellsC_at l (j/3) (by rw[h.1];exact hk)
 rcases (show j=j/3*3\/j=j/3*3+1\/j=j/3*3+2 by omega) with e|e|e
 ·rw[e] at hu ⊢
  rw[k1] at hu
  have hc:w.cell? ⟨b,o+j/3*3,none⟩=some u:=c1.trans hu
  exact⟨World.block_lt_of_cell? w _ hc,hc⟩
 ·rw[e] at hu ⊢
  rw[k2] at hu
  have hc:w.cell? ⟨b,o+(j/3*3+1),none⟩=some u:=c2.trans hu
  exact⟨World.block_lt_of_cell? w _ hc,hc⟩
 ·rw[e] at hu ⊢
  rw[k3] at hu
  have hc:w.cell? ⟨b,o+(j/3*3+2),none⟩=some u:=c3.trans hu
  exact⟨World.block_lt_of_cell? w _ hc,hc⟩
set_option maxHeartbeats 1000000 in
theorem tclone_at {w:World} {b o n cap:Nat} {l:List Z.Cl} (h:Z.ReadsC w (some ⟨b,o,none⟩) n l) (hn:n<=1000) (h0:0<n):Calls Tryz.prog 47 #[.slice (some ⟨b,o,none⟩) n cap] w fun e w'=>
 ∃v,e=.returned v/\w'.ownsRow w.heap.size 101 3 v n (Z.cellsC l)/\Only [] w w':=by
 obtain⟨i0,hi,hz0,hz1,hz2⟩:=info_parts info_cl
 have hnil:=Lib.run_eql_slice_nil (P:=Tryz.prog) w 56 101 (some ⟨b,o,none⟩) n cap 0 0 Tryz.underlying56
 have HL:=Lib.hid h.1
 have HC:Hid (∀j (u:Value),(Z.cellsC l)[j]? =some u->(w.alloc (.cells #[] 101)).cell? ((⟨b,o,none⟩:Addr).add j)=some u):=fun j u hu=>(tcells h j u hu).2▸(World.cell?_alloc_lt w _ _ (tcells h j u hu).1)
 have H1:Hid (∀u∈Z.cellsC l,u.oneCell'=true):=tone l
 have HLEN:Hid ((Z.cellsC l).length=n*3):=(by rw[Z.cellsC_length,h.1]:(Z.cellsC l).length=n*3)
 clear h
 go_enter Tryz.func47,Tryz.ntmps47
 go_wp2_with (at_builtin;refine wpList_append_own _ rfl _ _ 56 rfl w.heap.size 101 i0 (.agg #[.int .i64 0,.int .i64 0,.int .i64 0]) 3 24 Tryz.underlying56 hi hz0 hz1 hz2 rfl (by decide) _ _ _ rfl (own0_3 w) ⟨b,o,none⟩ n cap (Z.cellsC l) rfl HLEN.out HC.out H1.out (by unfold maxLen;omega) (by omega) (by simp) ?_;intro v1 w1 hown1 hg1 _)
 go_ret
 refine⟨_,rfl,by simpa using hown1,((Only.refl [] w).alloc _).grown hg1 (fun k hk=>.inr (own_base (own0_3 w) k hk))⟩
set_option maxHeartbeats 1000000 in
theorem cnew_at {w:World} {b o n c:Nat} {T:List Z.Cl} (h:Z.ReadsC w (some ⟨b,o,none⟩) n T) (hT:Z.isTable T) (bud:Int) (b0:0<=bud) (b1:bud<=65536):
 Calls Tryz.prog 50 #[.slice (some ⟨b,o,none⟩) n c,.int .i64 bud] w fun r w'=>∃q fp,r=.returned (.tuple #[.pointer (some ⟨q,0,none⟩),.int .i64 0])/\CaSt q T bud (fun _=>none) w' fp/\Only [] w w'/\∀x∈fp,w.heap.size<=x:=by
 have hl:=h.1
 have hn40:n<=40:=by have:=hT.2.1;omega
 have hn1:0<n:=by have:=hT.1;omega
 have CV:=Lib.hid (by have:=Z.Valid_any w (some ⟨b,o,none⟩) n c T h (by omega);rwa[decide_eq_true hT] at this:Grew Tryz.prog 45 #[.slice (some ⟨b,o,none⟩) n c] w (.bool true))
 have CC:=Lib.hid (fun W (ho:Only [] w W)=>tclone_at (cap:=c) (h.still ho) (by omega) hn1)
 have HI:=Lib.hid h.2.1
 have HL:=Lib.hid hl
 have HT:=Lib.hid hT
 have d1:decide (bud<0)=false:=decide_eq_false (by omega)
 have d2:decide (65536<bud)=false:=decide_eq_false (by omega)
 have hmm:= @run_makeMap Tryz.prog
 clear h hl hT
 go_enter Tryz.func50,Tryz.ntmps50
 go_wp2_with (first
  |(go_at_call 45;with_reducible refine Grew.use CV.out (fun w1 ho1=>?_);have HO1:=Lib.hid ho1)
  |(go_at_call 47;refine(CC.out _ HO1.out).mono ?_;rintro r w2 ⟨v,rfl,hown,ho2⟩;obtain⟨g,cg,rfl,hg1,hg2⟩:=own_form hown hn1))
 go_ret2
 have hnT:n=T.length:=HL.out.symm
 obtain⟨A,c',eA,hrd,_⟩:=Z.own_reads hnT hown HI.out
 injection eA with e1 _ e3
 subst e1 e3
 have hcg:n<=cg:=by
  rcases hown.2 with ⟨h2,_⟩|⟨g',cap,cur,hv,_,_,h3,_⟩
  ·cases h2
  ·injection hv with _ _ e3
   omega
 have oM:Only [] w2 (w2.alloc (.map #[] 0)):=(Only.refl [] w2).alloc _
 have oF:Only [] w2 ((w2.alloc (.map #[] 0)).alloc (.cells #[.slice (some ⟨g,0,none⟩) n cg,.int .i64 bud,.map (some w2.heap.size)] 153)):=oM.alloc _
 have hB:=Blk.new (w2.alloc (.map #[] 0)) 153 #[.slice (some ⟨g,0,none⟩) n cg,.int .i64 bud,.map (some w2.heap.size)]
 rw[World.size_alloc] at hB
 have hM:=(IMap.made w2).only (l:=[]) ((Only.refl [] _).alloc (.cells #[.slice (some ⟨g,0,none⟩) n cg,.int .i64 bud,.map (some w2.heap.size)] 153)) (by simp)
 have hs1:=HO1.out.size
 have hs2:=ho2.size
 refine⟨w2.heap.size+1,[w2.heap.size+1,w2.heap.size,g],rfl,⟨HT.out,⟨b0,b1⟩,fun k x h=>(by cases h),fun x hx=>?_,⟨g,0,none⟩,cg,w2.heap.size,0,fun _=>[],by rw[<-hnT];exact hB,by rw[<-hnT];exact hrd.still oF,by rw[<-hnT];exact hcg,hM.ext (fun k=>rfl),fun k x h=>(by cases h),fun k k' x x' h=>(by cases h),fun k x h=>(by cases h),by simp,by simp,by simp,by omega,?_,?_⟩,(HO1.out.trans ho2).trans oF,fun x hx=>?_⟩
 ·simp at hx
  rcases hx with rfl|rfl|rfl
  ·simp
  ·simp;omega
  ·simp;omega
 ·show w2.heap.size+1≠g
  omega
 ·show w2.heap.size≠g
  omega
 ·simp at hx
  rcases hx with rfl|rfl|rfl<;>omega
open Go.Shelf
def renS:Ren:=⟨fun x=>if x=6 then 143 else if x=14 then 169 else if x=15 then 170 else if x=20 then 196 else if x=21 then 197 else if x=22 then 198 else if x=23 then 199 else if x=24 then 200 else if x=25 then 201 else if x=26 then 202 else if x=27 then 203 else if x=28 then 204 else if x=29 then 205 else if x=46 then 218 else if x=47 then 219 else if x=48 then 220 else if x=49 then 221 else if x=50 then 222 else 224,
 fun x=>if x=0 then 0 else if x=3 then 3 else if x=4 then 4 else if x=5 then 5 else if x=9 then 9 else if x=22 then 114 else if x=24 then 205 else if x=25 then 262 else if x=39 then 276 else if x=45 then 298 else if x=46 then 299 else if x=50 then 240 else if x=53 then 305 else if x=55 then 307 else if x=66 then 322 else if x=70 then 326 else if x=76 then 329 else 330,fun x=>x⟩
theorem laysS:SlLaysF0.n6 Tryz.prog renS where
 mixed:=by kernel_rfl
 f6:=⟨ "slices.SortFunc[[]freehold/api.Batch,freehold/api.Batch]",by decide,by kernel_rfl⟩
 f14:=⟨ "slices.pdqsortCmpFunc[freehold/api.Batch]",by decide,by kernel_rfl⟩
 f15:=by kernel_rfl
 f20:=⟨ "slices.insertionSortCmpFunc[freehold/api.Batch]",by decide,by kernel_rfl⟩
 f21:=⟨ "slices.heapSortCmpFunc[freehold/api.Batch]",by decide,by kernel_rfl⟩
 f22:=⟨ "slices.breakPatternsCmpFunc[freehold/api.Batch]",by decide,by kernel_rfl⟩
 f23:=⟨ "slices.choosePivotCmpFunc[freehold/api.Batch]",by decide,by kernel_rfl⟩
 f24:=⟨ "slices.reverseRangeCmpFunc[freehold/api.Batch]",by decide,by kernel_rfl⟩
 f25:=⟨ "slices.partialInsertionSortCmpFunc[freehold/api.Batch]",by decide,by kernel_rfl⟩
 f26:=⟨ "slices.partitionEqualCmpFunc[freehold/api.Batch]",by decide,by kernel_rfl⟩
 f27:=⟨ "slices.partitionCmpFunc[freehold/api.Batch]",by decide,by kernel_rfl⟩
 f28:=by kernel_rfl
 f29:=by kernel_rfl
 f46:=⟨ "slices.siftDownCmpFunc[freehold/api.Batch]",by decide,by kernel_rfl⟩
 f47:=by kernel_rfl
 f48:=by kernel_rfl
 f49:=⟨ "slices.medianAdjacentCmpFunc[freehold/api.Batch]",by decide,by kernel_rfl⟩
 f50:=⟨ "slices.medianCmpFunc[freehold/api.Batch]",by decide,by kernel_rfl⟩
 f57:=⟨ "slices.order2CmpFunc[freehold/api.Batch]",by decide,by kernel_rfl⟩
 t0:=by kernel_rfl
 a0:=fun _=>by kernel_rfl
 z0:=fun _=>by kernel_rfl
 v0:=fun _=>by kernel_rfl
 t3:=by kernel_rfl
 a3:=fun _=>by kernel_rfl
 z3:=fun _=>by kernel_rfl
 v3:=fun _=>by kernel_rfl
 t4:=by kernel_rfl
 a4:=fun _=>by kernel_rfl
 z4:=fun _=>by kernel_rfl
 v4:=fun _=>by kernel_rfl
 t5:=by kernel_rfl
 a5:=fun _=>by kernel_rfl
 z5:=fun _=>by kernel_rfl
 v5:=fun _=>by kernel_rfl
 t9:=by kernel_rfl
 a9:=fun _=>by kernel_rfl
 z9:=fun _=>by kernel_rfl
 v9:=fun _=>by kernel_rfl
 t22:=by kernel_rfl
 a22:=fun _=>by kernel_rfl
 z22:=fun _=>by kernel_rfl
 v22:=fun _=>by kernel_rfl
 t25:=by kernel_rfl
 a25:=fun _=>by kernel_rfl
 z25:=fun _=>by kernel_rfl
 v25:=fun _=>by kernel_rfl
 t39:=by kernel_rfl
 a39:=fun _=>by kernel_rfl
 z39:=fun _=>by kernel_rfl
 v39:=fun _=>by kernel_rfl
 t45:=by kernel_rfl
 a45:=fun _=>by kernel_rfl
 z45:=fun _=>by kernel_rfl
 v45:=fun _=>by kernel_rfl
 t46:=by kernel_rfl
 a46:=fun _=>by kernel_rfl
 z46:=fun _=>by kernel_rfl
 v46:=fun _=>by kernel_rfl
 t50:=by kernel_rfl
 a50:=fun _=>by kernel_rfl
 z50:=fun _=>by kernel_rfl
 v50:=fun _=>by kernel_rfl
 t53:=by kernel_rfl
 a53:=fun _=>by kernel_rfl
 z53:=fun _=>by kernel_rfl
 v53:=fun _=>by kernel_rfl
 t55:=by kernel_rfl
 a55:=fun _=>by kernel_rfl
 z55:=fun _=>by kernel_rfl
 v55:=fun _=>by kernel_rfl
 t66:=by kernel_rfl
 a66:=fun _=>by kernel_rfl
 z66:=fun _=>by kernel_rfl
 v66:=fun _=>by kernel_rfl
 t70:=by kernel_rfl
 a70:=fun _=>by kernel_rfl
 z70:=fun _=>by kernel_rfl
 v70:=fun _=>by kernel_rfl
 t76:=by kernel_rfl
 a76:=fun _=>by kernel_rfl
 z76:=fun _=>by kernel_rfl
 v76:=fun _=>by kernel_rfl
 t77:=by kernel_rfl
 a77:=fun _=>by kernel_rfl
 z77:=fun _=>by kernel_rfl
 v77:=fun _=>by kernel_rfl
end Go.Proofs.YtcidjimefnhacaaGreatDoor
namespace Go.Proofs.YtcidjimefnhacaaGreatDoor
open Go.RowKit
open Go.Shelf Go.Sort
abbrev BtV:={x:Nat×Value//x.1<40/\∃A n c,x.2=.slice A n c}
instance :Inhabited BtV:=⟨⟨(0,.slice none 0 0),by decide,none,0,0,rfl⟩⟩
def encB (x:BtV):List Value:=[.int .i64 (x.1.1:Nat),x.1.2]
def cfB (x y:BtV):Int:=(x.1.1:Int)-y.1.1
theorem bclosure (x y:BtV) (W:World):Calls Tryz.prog 144 #[.agg (encB x).toArray,.agg (encB y).toArray] W fun e w'=>e=.returned (.int .i64 (cfB x y))/\∃q os',w'=grow (W.drewN q) os':=by
 obtain⟨⟨a,v⟩,ha,A,n,c,hv⟩:=x
 obtain⟨⟨b,u⟩,hb,B,m,d,hu⟩:=y
 dsimp only at ha hb hv hu
 subst hv hu
 unfold encB cfB
 dsimp only
 have w0:IntKind.i64.wrap ((a:Int)-b)=(a:Int)-b:=IntWalk.i64_in _ (by omega)
 go_enter Tryz.func144,Tryz.ntmps144
 go_wp2_with fail
 go_ret
 exact⟨rfl,0,_,by rw[alloc_eq_grow,alloc_eq_grow,grow_grow];rfl⟩
theorem ltB (x y:BtV):ltOf cfB x y=decide (x.1.1<y.1.1):=by
 unfold ltOf cfB
 by_cases h:x.1.1<y.1.1
 ·rw[decide_eq_true h,decide_eq_true (by omega)]
 ·rw[decide_eq_false h,decide_eq_false (by omega)]
theorem swoB:SWO (ltOf cfB) where
 irrefl x:=by rw[ltB];simp
 trans x y z h1 h2:=by rw[ltB] at *;simp at *;omega
 ntrans x y z h1 h2:=by rw[ltB] at *;simp at *;omega
theorem cmpLaysB (blk off size:Nat) (w:World):CmpLays Tryz.prog 144 #[] encB 2 cfB blk off size w:=fun _ _ _ _ x y=>bclosure x y _
end Go.Proofs.YtcidjimefnhacaaGreatDoor
