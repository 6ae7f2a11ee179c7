/- TopSchedules, a part of the proof: Dq, Dr, Ow. -/
import Derived.Test.YtcidjimefnhacaaGreatDoorM20
import Derived.Shelf.SlSortCmp.NoneTotal
import Derived.Test.YtcidjimefnhacaaGreatDoorM13
set_option linter.unusedVariables false
set_option linter.unusedSimpArgs false
namespace Go.Proofs.YtcidjimefnhacaaGreatDoor
open Go.RowKit
open Go.Shelf Go.Sort
structure HB where
 k:Nat
 v:Value
 o:List Int
def HB.kv (b:HB):Nat×Value:=(b.k,b.v)
def encN (x:Nat×Value):List Value:=[.int .i64 (x.1:Nat),x.2]
def cellsH (L:List HB):List Value:=L.flatMap fun b=>encN b.kv
theorem cellsH_append (L M:List HB):cellsH (L++M)=cellsH L++cellsH M:=by simp[cellsH]
theorem cellsH_map (L:List HB):cellsH L=(L.map HB.kv).flatMap encN:=by simp[cellsH,List.flatMap_map]
theorem cellsH_len (L:List HB):(cellsH L).length=L.length*2:=by
 induction L with
 |nil=>rfl
 |cons x l ih=>
  have:cellsH (x::l)=encN x.kv++cellsH l:=rfl
  rw[this,List.length_append,ih,List.length_cons,show(encN x.kv).length=2 from rfl]
  omega
theorem flat2 {α:Type} [Inhabited α] (f:α->List Value) (hf:∀x,(f x).length=2) (l:List α) (t:Nat) (ht:t<l.length*2):(l.flatMap f)[t]? =some ((f l.toArray[t/2]!)[t%2]!):=by
 induction l generalizing t with
 |nil=>simp at ht
 |cons x l ih=>
  rw[List.flatMap_cons]
  rcases Nat.lt_or_ge t 2 with h|h
  ·rw[List.getElem?_append_left (by rw[hf];exact h)]
   have e1:t/2=0:=by omega
   have e2:t%2=t:=by omega
   rw[e1,e2,List.getElem?_eq_getElem (by rw[hf];exact h)]
   have hx:=hf x
   simp[h,hx]
  ·rw[List.getElem?_append_right (by rw[hf];exact h),hf]
   obtain⟨s,rfl⟩:∃s,t=s+2:=⟨t-2,by omega⟩
   have ht':s<l.length*2:=by simp at ht;omega
   rw[Nat.add_sub_cancel,ih s ht',show(s+2)/2=s/2+1 by omega,show(s+2)%2=s%2 by omega]
   have:s/2<l.length:=by omega
   simp
theorem perm_lift {α β:Type} (f:α->β) {m m':List β} (h:m.Perm m'):∀l:List α,l.map f=m->∃l':List α,l'.Perm l/\l'.map f=m':=by
 induction h with
 |nil=>intro l hl;exact⟨[],by rw[List.map_eq_nil_iff.1 hl],rfl⟩
 |cons x _ ih=>
  intro l hl
  obtain⟨a,l1,rfl,rfl,hl1⟩:=List.map_eq_cons_iff.1 hl
  obtain⟨l',h1,h2⟩:=ih l1 hl1
  exact⟨a::l',h1.cons a,by rw[List.map_cons,h2]⟩
 |swap x y l0=>
  intro l hl
  obtain⟨a,l1,rfl,rfl,hl1⟩:=List.map_eq_cons_iff.1 hl
  obtain⟨b,l2,rfl,rfl,rfl⟩:=List.map_eq_cons_iff.1 hl1
  exact⟨b::a::l2,List.Perm.swap _ _ _,rfl⟩
 |trans _ _ ih1 ih2=>
  intro l hl
  obtain⟨l1,h1,h2⟩:=ih1 l hl
  obtain⟨l2,h3,h4⟩:=ih2 l1 h2
  exact⟨l2,h3.trans h1,h4⟩
def HB.fine (b:HB):Prop:=b.k<40/\∃A m c,b.v=.slice A m c
theorem fine_bts:∀L:List HB,(∀b∈L,b.fine)->∃ds:List BtV,ds.map (·.1)=L.map HB.kv
 | [],_=>⟨[],rfl⟩
 |b::L,h=>by
  obtain⟨ds,hd⟩:=fine_bts L (fun x hx=>h x (mcm _ hx))
  obtain⟨h1,h2⟩:=h b (by simp)
  exact⟨⟨(b.k,b.v),h1,h2⟩::ds,by simp[hd,HB.kv]⟩
theorem encB_len (x:BtV):(encB x).length=2:=rfl
theorem bts_cells {ds:List BtV} {L:List HB} (h:ds.map (·.1)=L.map HB.kv):ds.flatMap encB=cellsH L:=by
 rw[cellsH_map,<-h,List.flatMap_map]
 rfl
theorem own_holdsK {w:World} {base n g c:Nat} {e:TypeId} {ds:List BtV} (h:w.ownsRow base e 2 (.slice (some ⟨g,0,none⟩) n c) n (ds.flatMap encB)) (hn:n=ds.length):HoldsK encB 2 w g 0 ds.toArray/\g<w.heap.size:=by
 rcases h.2 with ⟨h2,_⟩|⟨g',cap,cur,hv,hb,hg,h3,h4,h5,h6⟩
 ·cases h2
 ·injection hv with e1 _ e3
  injection e1 with e1
  injection e1 with e1 _ _
  subst e1 e3
  have hB:Blk w g e cur:=hg
  refine⟨fun t ht=>?_,hB.lt⟩
  have ht2:t<ds.length*2:=by simpa using ht
  refine⟨?_,hB.frozen _⟩
  rw[Nat.zero_add]
  refine hB.cell_ t ?_
  have:=flat2 encB encB_len ds t ht2
  rw[<-h6,List.getElem?_take,if_pos (by omega),Array.getElem?_toList] at this
  rw[this,get_flatK _ _ _ _ (by simpa using ht2)]
  rfl
theorem own_sortK {w:World} {base n g c q:Nat} {e:TypeId} {ds ys:List BtV} {os:Array Obj} (h:w.ownsRow base e 2 (.slice (some ⟨g,0,none⟩) n c) n (ds.flatMap encB)) (hn:n=ds.length) (hy:ys.length=n):
 (sortWorldK encB 2 w g 0 q ys.toArray os).ownsRow base e 2 (.slice (some ⟨g,0,none⟩) n c) n (ys.flatMap encB)/\Only [g] w (sortWorldK encB 2 w g 0 q ys.toArray os):=by
 rcases h.2 with ⟨h2,_⟩|⟨g',cap,cur,hv,hb,hg,h3,h4,h5,h6⟩
 ·cases h2
 ·injection hv with e1 _ e3
  injection e1 with e1
  injection e1 with e1 _ _
  subst e1 e3
  have hB:Blk w g e cur:=hg
  have hlt:=hB.lt
  have hg2:w.heap[g]? =some (.cells cur e):=hg
  have hyl:(ys.flatMap encB).length=n*2:=by
   rw[<-hy]
   clear hy
   induction ys with
   |nil=>rfl
   |cons x l ih=>rw[List.flatMap_cons,List.length_append,ih,encB_len,List.length_cons];omega
  have hnew:(sortWorldK encB 2 w g 0 q ys.toArray os).heap[g]? =some (.cells (putCells id 0 (flatK encB 2 ys.toArray) cur) e):=by
   unfold sortWorldK grow putRowK putRow mapBlock Sort.ahead
   dsimp only
   rw[Array.getElem?_append_left (by simpa using hlt)]
   simp[Array.getElem?_modify,hg2,onCells]
  refine⟨⟨hyl,.inr ⟨g,c,_,rfl,hb,hnew,h3,h4,by simpa[putCells] using h5,?_⟩⟩,?_⟩
  ·apply List.ext_getElem?
   intro t
   rw[List.getElem?_take,Array.getElem?_toList]
   by_cases ht:t<n*2
   ·rw[if_pos ht,flat2 encB encB_len ys t (by omega)]
    have htc:t<cur.size:=by
     rw[h5]
     exact Nat.lt_of_lt_of_le ht (Nat.mul_le_mul_right 2 h3)
    simp only[putCells,Array.getElem?_mapIdx,Array.getElem?_eq_getElem htc,Option.map_some]
    rw[if_pos (by simp;omega),Nat.sub_zero,get_flatK _ _ _ _ (by simp;omega)]
    rfl
   ·rw[if_neg ht,List.getElem?_eq_none (by omega)]
  ·refine⟨rfl,rfl,rfl,?_,fun i hi hni=>?_⟩
   ·unfold sortWorldK grow putRowK putRow mapBlock Sort.ahead
    simp
   ·have:g≠i:=fun e=>hni (by simp[e])
    unfold sortWorldK grow putRowK putRow mapBlock Sort.ahead
    dsimp only
    rw[Array.getElem?_append_left (by simpa using hi)]
    simp[Array.getElem?_modify,this]
theorem isAggB (w:World):(isAgg 205).run Tryz.prog w=.ok true w:=by kernel_rfl
theorem sizeB (w:World):(Go.sizeOf 205).run Tryz.prog w=.ok 2 w:=by kernel_rfl
theorem cellsOneB (x:BtV):∀v∈encB x,v.oneCell'=true:=by
 obtain⟨⟨k,v⟩,h1,A,n,c,h2⟩:=x
 dsimp only at h2
 subst h2
 intro u hu
 simp[encB] at hu
 rcases hu with rfl|rfl<;>rfl
theorem bclosure_enters:∀args w,(callFunc 144 args).run Tryz.prog w=.ok (.enter 144 args) w:=fun _ _=>by kernel_rfl
theorem bsort_at {w:World} {base n:Nat} {v:Value} {L:List HB} (h:w.ownsRow base 205 2 v n (cellsH L)) (hL:∀b∈L,b.fine) (hs:n<=1000):
 Calls Tryz.prog 143 #[v,.func (.func 144) #[] #[]] w fun e w'=>e=.returned (.tuple #[])/\∃L',L'.Perm L/\w'.ownsRow base 205 2 v n (cellsH L')/\Only v.ownBlock.toList w w':=by
 have hn:n=L.length:=by have:=h.1;rw[cellsH_len] at this;omega
 rcases Nat.eq_zero_or_pos n with h0|h0
 ·obtain⟨A,c,rfl,_⟩:=own_slice h
  subst h0
  exact(AnyF.slices_SortFunc_none laysS A c _ w).mono fun e w' he=>by
   obtain⟨rfl,rfl⟩:=he
   exact⟨rfl,L,List.Perm.refl _,h,(Only.refl [] _).of_nil⟩
 ·obtain⟨ds,hds⟩:=fine_bts L hL
  have hdl:ds.length=n:=by have:=congrArg List.length hds;simpa[<-hn] using this
  obtain⟨g,c,rfl,_⟩:=own_form h h0
  have hO:=h
  rw[<-bts_cells hds] at hO
  obtain⟨hH,hg⟩:=own_holdsK hO hdl.symm
  have hS:=AnyQ.slices_SortFunc laysS 2 isAggB sizeB encB encB_len cellsOneB cfB swoB 144 #[] g 0 c ds.toArray w bclosure_enters (cmpLaysB g 0 ds.toArray.size w) hH hg (by simp;omega)
  have hsz:ds.toArray.size=n:=by simpa using hdl
  rw[hsz] at hS
  refine Calls.mono (f:=143) hS ?_
  rintro e w' ⟨rfl,d',q,os,hp,_,rfl⟩
  obtain⟨hp1,_,hp2⟩:=hp
  have hp3:d'.toList.Perm ds:=by
   have e1:d'.extract 0 n=d':=by rw[<-hsz,<-hp1];simp
   have e2:ds.toArray.extract 0 n=ds.toArray:=by rw[<-hsz];simp
   rw[e1,e2] at hp2
   simpa using hp2
  obtain⟨L',hl1,hl2⟩:=perm_lift HB.kv ((hp3.symm).map (·.1)) L hds.symm
  obtain⟨o1,o2⟩:=own_sortK (q:=q) (os:=os) (ys:=d'.toList) hO hdl.symm (by rw[Array.length_toList,hp1,hsz])
  rw[bts_cells hl2.symm] at o1
  exact⟨rfl,L',hl1,o1,o2⟩
end Go.Proofs.YtcidjimefnhacaaGreatDoor
namespace Go.Proofs.YtcidjimefnhacaaGreatDoor
open Go.RowKit
def ctok (C:Int->Option CE) (k a:Int):Nat:=match C k with
 |some x=>x.e.o.count a
 |none=>0
def htok:List HB->Int->Int->Nat
 | [],_,_=>0
 |b::L,k,a=>(if(b.k:Int)=k then b.o.count a else 0)+htok L k a
theorem htok_append (L M:List HB) (k a:Int):htok (L++M) k a=htok L k a+htok M k a:=by
 induction L with
 |nil=>simp[htok]
 |cons b L ih=>rw[List.cons_append,htok,htok,ih,Nat.add_assoc]
theorem htok_perm {L M:List HB} (h:L.Perm M) (k a:Int):htok L k a=htok M k a:=by
 induction h with
 |nil=>rfl
 |cons x _ ih=>rw[htok,htok,ih]
 |swap x y l=>simp only[htok];omega
 |trans _ _ h1 h2=>exact h1.trans h2
theorem ctok_set (C:Int->Option CE) (k:Int) (x:CE) (j a:Int):ctok (cSet C k x) j a=if j=k then x.e.o.count a else ctok C j a:=by
 unfold ctok cSet
 by_cases h:j=k
 ·simp[h]
 ·simp[h]
theorem ctok_some {C:Int->Option CE} {k:Int} {x:CE} (h:C k=some x) (a:Int):ctok C k a=x.e.o.count a:=by unfold ctok;rw[h]
theorem cG_set {C:Int->Option CE} {k:Int} {p:Nat} {e e':CLp} (h:C k=some ⟨p,e⟩):cG (cSet C k ⟨p,e'⟩)=cG C:=by
 funext j
 unfold cG cSet
 by_cases hj:j=k
 ·subst hj;simp[h]
 ·simp[hj]
def HRow (w:World) (L:List HB) (fs:List Nat):Prop:=∀b∈L,OSl w b.v fs b.o
theorem HRow.only {w w':World} {L:List HB} {fs l:List Nat} (h:HRow w L fs) (ho:Only l w w') (hb:∀b∈fs,b∉l):HRow w' L fs:=fun b hb'=>(h b hb').only ho hb
theorem HRow.mono {w:World} {L:List HB} {fs fs':List Nat} (h:HRow w L fs) (hb:∀b∈fs,b∈fs'):HRow w L fs':=fun b hb'=>(h b hb').mono hb
theorem HRow.append {w:World} {L M:List HB} {fs:List Nat} (h:HRow w L fs) (h':HRow w M fs):HRow w (L++M) fs:=fun b hb=>(List.mem_append.1 hb).elim (h b) (h' b)
theorem OSl.blk {w:World} {v:Value} {fs:List Nat} {l:List Int} (h:OSl w v fs l) (h0:0<l.length):∃b,b∈fs/\v.ownBlock=some b/\OSl w v [b] l:=by
 rcases h with ⟨rfl,_⟩|⟨_,b,hb,h⟩
 ·simp at h0
 ·refine⟨b,hb,?_,.inr ⟨h0,b,by simp,h⟩⟩
  obtain⟨⟨off,cap,rfl,_⟩,_⟩:=h
  rfl
structure HB.ok (n:Nat) (b:HB):Prop where
 k:b.k<n
 l0:0<b.o.length
 l1:b.o.length<=256
structure BLoop (q:Nat) (T:List Z.Cl) (bud:Int) (C:Int->Option CE) (gm r:Nat) (w:World) (fp:List Nat) (v:Value) (L Q:List HB) (C1:Int->Option CE) (fp1 fs:List Nat) (c:Nat) (wr:World):Prop where
 own:wr.ownsRow w.heap.size 205 2 v L.length (cellsH L)
 st:CaSt q T bud C1 wr fp1
 g:cG C1=cG C
 map:wr.cell? ⟨q,2,none⟩=some (.map (some gm))
 rng:IRng wr gm r (cG C) c
 only:Only fp w wr
 f1:∀b∈fp1,b∈fp\/w.heap.size<=b
 row:HRow wr (L++Q) fs
 fsn:∀b∈fs,w.heap.size<=b/\b<wr.heap.size/\b∉fp1/\b≠r
 vb:∀g,v.ownBlock=some g->g∉fp1/\g∉fs/\g≠r
 rf:r∉fp1/\w.heap.size<=r
 ok:∀b∈L,b.ok T.length
 ln:L.length+c<=40
 tok:∀k a,ctok C1 k a+htok (L++Q) k a=ctok C k a
 nd:(L.map (fun b=>b.v.ownBlock)).Nodup
 nq:∀b∈Q,0<b.o.length->∀c∈L,c.v.ownBlock≠b.v.ownBlock
namespace BLoop
variable {q:Nat} {T:List Z.Cl} {bud:Int} {C C1:Int->Option CE} {gm r c:Nat} {w wr w':World} {fp fp1 fs:List Nat} {v:Value} {L Q:List HB}
theorem still (h:BLoop q T bud C gm r w fp v L Q C1 fp1 fs c wr) (ho:Only [] wr w'):BLoop q T bud C gm r w fp v L Q C1 fp1 fs c w':=by
 obtain⟨a1,a2,a3,a4,a5,a6,a7,a8,a9,b1,b2,b3,b4,b5,b6,b7⟩:=h
 exact⟨own_only a1 ho (by simp),(CaSt.framed _ _ _ _).still a2 ho,a3,(ho.cell (p:=⟨q,2,none⟩) (World.block_lt_of_cell? wr _ a4) (by simp)).trans a4,a5.only ho (by simp) (by simp),a6.then_ ho (by simp),a7,a8.only ho (by simp),fun b hb=>⟨(a9 b hb).1,Nat.lt_of_lt_of_le (a9 b hb).2.1 ho.size,(a9 b hb).2.2⟩,b1,b2,b3,b4,b5,b6,b7⟩
theorem next {c2:Nat} (h:BLoop q T bud C gm r w fp v L Q C1 fp1 fs c wr) (hr:IRng w' gm r (cG C) c2) (hc:c2<c) (ho:Only [r] wr w'):BLoop q T bud C gm r w fp v L Q C1 fp1 fs c2 w'/\L.length+1+c2<=40:=by
 obtain⟨a1,a2,a3,a4,a5,a6,a7,a8,a9,b1,b2,b3,b4,b5,b6,b7⟩:=h
 have hq:q≠r:=by
  obtain⟨_,_,_,_,ta,tc,gm',cnt,ff,x1,x2,x3,x4,x5,x6,x7,x8,_⟩:=a2
  exact fun e=>b2.1 (e▸x8)
 refine⟨⟨own_only a1 ho (fun k hk=>by simpa using (b1 k hk).2.2),(CaSt.framed _ _ _ _).only a2 ho (fun b hb e=>?_),a3,(ho.cell (p:=⟨q,2,none⟩) (World.block_lt_of_cell? wr _ a4) (by simpa using hq)).trans a4,hr,a6.then_ ho (fun b hb=>.inr (by simp at hb;rw[hb];exact b2.2)),a7,a8.only ho (fun b hb=>by simpa using (a9 b hb).2.2.2),fun b hb=>⟨(a9 b hb).1,Nat.lt_of_lt_of_le (a9 b hb).2.1 ho.size,(a9 b hb).2.2⟩,b1,b2,b3,by omega,b5,b6,b7⟩,by omega⟩
 simp at e
 exact b2.1 (e▸hb)
theorem gave (h:BLoop q T bud C gm r w fp v L [] C1 fp1 fs c wr) {k:Int} {p:Nat} {e:CLp} (hk:C1 k=some ⟨p,e⟩):∃f,LiSt p e wr f/\∀rr w3,LGave p e wr f rr w3->
 ∃v3 l C2 fp2 fs2,rr=.returned v3/\OSl w3 v3 fs2 l/\l.length<=256/\BLoop q T bud C gm r w fp v L [⟨k.toNat,v3,l⟩] C2 fp2 fs2 c w3:=by
 obtain⟨a1,a2,a3,a4,a5,a6,a7,a8,a9,b1,b2,b3,b4,b5,b6,b7⟩:=h
 obtain⟨f,hl,hff,⟨hq,hgm⟩,hlift⟩:=a2.lift2 hk
 have hgf:=hgm gm a4
 have hk0:=a2.dom k _ hk
 have hrf:r∉f:=fun hb=>b2.1 (hff r hb)
 refine⟨f,hl,?_⟩
 rintro rr w3 ⟨v3,l,e',rfl,hle,o3,f',g',l3,os3,hf',hg'⟩
 have hr5:=a5.lt
 have hos:=o3.size
 have hll:l.length<=256:=by have:=hl.ok.ln;have h2:=congrArg List.length hle;rw[List.length_append] at h2;omega
 have nfp:∀b,b<wr.heap.size->b∉fp1->b∉fp1.filter (fun b=>decide (b∉f))++f':=fun b h1 h2 h3=>by
  rcases List.mem_append.1 h3 with h|h
  ·exact h2 (List.mem_filter.1 h).1
  ·rcases hf' b h with h|h
   ·exact h2 (hff b h)
   ·omega
 have hg2:∀b∈g',w.heap.size<=b/\wr.heap.size<=b/\b<w3.heap.size:=fun b hb=>⟨Nat.le_trans a6.size (hg' b hb).1,(hg' b hb).1,os3.2 b hb⟩
 refine⟨v3,l,cSet C1 k ⟨p,e'⟩,fp1.filter (fun b=>decide (b∉f))++f',fs++g',rfl,os3.1.mono (fun b hb=>List.mem_append_right _ hb),hll,own_only a1 o3 (fun g hg hb=>(b1 g hg).1 (hff g hb)),hlift e' w3 f' o3 l3 hf',(cG_set hk).trans a3,(o3.cell (p:=⟨q,2,none⟩) (World.block_lt_of_cell? wr _ a4) hq).trans a4,a5.only o3 hgf hrf,a6.then_ o3 (fun b hb=>a7 b (hff b hb)),fun b hb=>?_,?_,fun b hb=>?_,fun g hg=>?_,⟨nfp r hr5.2 b2.1,b2.2⟩,b3,b4,fun j a=>?_,b6,fun x hx hx0 c hc e=>?_⟩
 ·rcases List.mem_append.1 hb with h|h
  ·exact a7 b (List.mem_filter.1 h).1
  ·rcases hf' b h with h|h
   ·exact a7 b (hff b h)
   ·exact .inr (Nat.le_trans a6.size h)
 ·rw[List.append_nil] at a8
  refine HRow.append ((a8.only o3 (fun b hb hbf=>(a9 b hb).2.2.1 (hff b hbf))).mono (fun b hb=>List.mem_append_left _ hb)) (fun b hb=>?_)
  rw[List.mem_singleton] at hb
  subst hb
  exact os3.1.mono (fun b hb=>List.mem_append_right _ hb)
 ·rcases List.mem_append.1 hb with h|h
  ·obtain⟨c1,c2,c3,c4⟩:=a9 b h
   exact⟨c1,Nat.lt_of_lt_of_le c2 hos,nfp b c2 c3,c4⟩
  ·obtain⟨c1,c2,c3⟩:=hg2 b h
   refine⟨c1,c3,fun h3=>?_,fun e=>by omega⟩
   rcases List.mem_append.1 h3 with h3|h3
   ·have:=a2.lts b (List.mem_filter.1 h3).1;omega
   ·exact(hg' b h).2 h3
 ·have hgl:=own_lt' a1 g hg
  obtain⟨c1,c2,c3⟩:=b1 g hg
  refine⟨nfp g hgl c1,fun h3=>?_,c3⟩
  rcases List.mem_append.1 h3 with h3|h3
  ·exact c2 h3
  ·have:=(hg2 g h3).2.1;omega
 ·have h5:=b5 j a
  rw[List.append_nil] at h5
  rw[htok_append,ctok_set]
  have hcount:=congrArg (List.count a) hle
  rw[List.count_append] at hcount
  by_cases hj:j=k
  ·subst hj
   rw[ctok_some hk] at h5
   rw[if_pos rfl]
   simp only[htok]
   rw[if_pos (by omega)]
   dsimp only at h5
   omega
  ·rw[if_neg hj]
   simp only[htok]
   rw[if_neg (by omega)]
   omega
 ·rw[List.mem_singleton] at hx
  subst hx
  obtain⟨c1,hc1,hc2,_⟩:=(a8 c (List.mem_append_left _ hc)).blk (b3 c hc).l0
  obtain⟨d1,hd1,hd2,_⟩:=os3.1.blk hx0
  rw[hc2,hd2] at e
  injection e with e
  subst e
  have:=(a9 c1 hc1).2.1
  have:=(hg2 c1 hd1).2.1
  omega
theorem drop {b:HB} (h:BLoop q T bud C gm r w fp v L [b] C1 fp1 fs c wr) (hb:b.o.length=0):BLoop q T bud C gm r w fp v L [] C1 fp1 fs c wr:=by
 obtain⟨a1,a2,a3,a4,a5,a6,a7,a8,a9,b1,b2,b3,b4,b5,b6,b7⟩:=h
 refine⟨a1,a2,a3,a4,a5,a6,a7,fun x hx=>a8 x (List.mem_append_left _ (by simpa using hx)),a9,b1,b2,b3,b4,fun k a=>?_,b6,(fun x hx=>by cases hx)⟩
 have:=b5 k a
 rw[htok_append] at this
 have h0:b.o=[]:=List.eq_nil_of_length_eq_zero hb
 simp[htok,h0] at this
 simpa using this
theorem push {b:HB} {v':Value} {w4 w5:World} (h:BLoop q T bud C gm r w fp v L [b] C1 fp1 fs c wr) (ho:Only [] wr w4) (hg:w4.grownBy w5 v.ownBlock) (hown:w5.ownsRow w.heap.size 205 2 v' (L.length+1) (cellsH L++[.int .i64 (b.k:Nat),b.v]))
 (hv:v'.ownBlock=v.ownBlock\/v'.ownBlock=some w4.heap.size) (hok:b.ok T.length) (hc:L.length+1+c<=40):BLoop q T bud C gm r w fp v' (L++[b]) [] C1 fp1 fs c w5:=by
 obtain⟨a1,a2,a3,a4,a5,a6,a7,a8,a9,b1,b2,b3,b4,b5,b6,b7⟩:=h
 have o5:Only v.ownBlock.toList wr w5:=ho.of_nil.grown hg (fun k hk=>.inl (by simp[hk]))
 have hs4:=ho.size
 have hq:q∈fp1/\gm∈fp1:=by
  obtain⟨_,_,_,_,ta,tc,gm',cnt,ff,x1,x2,x3,x4,x5,x6,x7,x8,x9,_⟩:=a2
  have e2:=(x1.cell_ 2 rfl).symm.trans a4
  injection e2 with e2
  injection e2 with e2
  injection e2 with e2
  exact⟨x8,e2▸x9⟩
 have nb:∀x,(∀g,v.ownBlock=some g->g≠x)->x∉v.ownBlock.toList:=fun x hx h=>hx x (Option.mem_toList.1 h) rfl
 refine⟨by simpa[cellsH,encN,HB.kv] using hown,(CaSt.framed _ _ _ _).only a2 o5 (fun x hx=>nb x (fun g hg' e=>(b1 g hg').1 (e▸hx))),a3,(o5.cell (p:=⟨q,2,none⟩) (World.block_lt_of_cell? wr _ a4) (nb q (fun g hg' e=>(b1 g hg').1 (e▸hq.1)))).trans a4,
  a5.only o5 (nb gm (fun g hg' e=>(b1 g hg').1 (e▸hq.2))) (nb r (fun g hg' e=>(b1 g hg').2.2 e)),a6.then_ o5 (fun x hx=>.inr (own_base a1 x (Option.mem_toList.1 hx))),a7,by simpa using a8.only o5 (fun x hx=>nb x (fun g hg' e=>(b1 g hg').2.1 (e▸hx))),fun x hx=>⟨(a9 x hx).1,Nat.lt_of_lt_of_le (a9 x hx).2.1 o5.size,(a9 x hx).2.2⟩,
  fun g hg'=>?_,b2,fun x hx=>?_,by simp;omega,by simpa using b5,?_,(fun x hx=>by cases hx)⟩
 ·rcases hv with e|e
  ·exact b1 g (e▸hg')
  ·have:w4.heap.size=g:=by rw[e] at hg';injection hg'
   subst this
   exact⟨fun hx=>by have:=a2.lts _ hx;omega,fun hx=>by have:=(a9 _ hx).2.1;omega,fun e=>by have:=a5.lt.2;omega⟩
 ·rcases List.mem_append.1 hx with h|h
  ·exact b3 x h
  ·rw[List.mem_singleton] at h;subst h;exact hok
 ·rw[List.map_append,List.nodup_append]
  refine⟨b6,by simp,fun x hx y hy e=>?_⟩
  obtain⟨c,hc,rfl⟩:=List.mem_map.1 hx
  simp at hy
  subst hy
  exact b7 b (by simp) hok.l0 c hc e
end BLoop
end Go.Proofs.YtcidjimefnhacaaGreatDoor
namespace Go.Proofs.YtcidjimefnhacaaGreatDoor
open Go.RowKit
inductive Hd where
 |liv
 |cac (t:Nat)
 |han (t:Nat)
 |tra (a:Nat)
 deriving DecidableEq
inductive Ow where
 |spc
 |bud (a:Nat)
 |cen (a k:Nat)
 |tok (h:Hd) (k a:Int)
 |big (a:Nat) (s:Int)
 |giv (t a:Nat) (s:Int)
 deriving DecidableEq
abbrev Who:=Int->Ow
def Has (who:Who) (o:Ow) (a n:Int):Prop:=∀b,a<=b->b<a+n->who b=o
theorem Has.sub {who:Who} {o:Ow} {a n a' n':Int} (h:Has who o a n) (h1:a<=a') (h2:a'+n'<=a+n):Has who o a' n':=fun b hb1 hb2=>h b (by omega) (by omega)
theorem Has.eq {who:Who} {o o':Ow} {a n a' n':Int} (h:Has who o a n) (h':Has who o' a' n') (b:Int) (h1:a<=b) (h2:b<a+n) (h3:a'<=b) (h4:b<a'+n'):o=o':=(h b h1 h2).symm.trans (h' b h3 h4)
theorem Has.apart {who:Who} {o o':Ow} {a n a' n':Int} (h:Has who o a n) (h':Has who o' a' n') (hne:o≠o') (hn:0<n) (hn':0<n'):a+n<=a'\/a'+n'<=a:=by
 by_cases h1:a+n<=a'
 ·exact .inl h1
 ·by_cases h2:a'+n'<=a
  ·exact .inr h2
  ·exfalso
   rcases Int.le_total a a' with h3|h3
   ·exact hne (h.eq h' a' h3 (by omega) (Int.le_refl _) (by omega))
   ·exact hne (h.eq h' a (Int.le_refl _) (by omega) h3 (by omega))
def mv (who:Who) (a n:Int) (o:Ow):Who:=fun b=>if a<=b/\b<a+n then o else who b
theorem mv_in (who:Who) (a n:Int) (o:Ow):Has (mv who a n o) o a n:=fun b h1 h2=>if_pos ⟨h1,h2⟩
theorem mv_out {who:Who} {a n b:Int} {o:Ow} (h:¬(a<=b/\b<a+n)):mv who a n o b=who b:=if_neg h
theorem Has.mv {who:Who} {o o1 o2:Ow} {a n a' n':Int} (h:Has who o a' n') (h1:Has who o1 a n) (hne:o≠o1):Has (mv who a n o2) o a' n':=fun b hb1 hb2=>by
 rw[mv_out (fun hb=>hne (h.eq h1 b hb1 hb2 hb.1 hb.2))]
 exact h b hb1 hb2
def ren (f:Ow->Ow) (who:Who):Who:=fun b=>f (who b)
theorem Has.ren {who:Who} {o:Ow} {a n:Int} (h:Has who o a n) (f:Ow->Ow):Has (ren f who) (f o) a n:=fun b h1 h2=>congrArg f (h b h1 h2)
theorem Has.ren_ {who:Who} {o:Ow} {a n:Int} (h:Has who o a n) {f:Ow->Ow} (hf:f o=o):Has (Go.Proofs.YtcidjimefnhacaaGreatDoor.ren f who) o a n:=by
 have:=h.ren f
 rwa[hf] at this
def szK (T:List Z.Cl) (k:Int):Int:=(Z.cAt T k.toNat).s
theorem szK_pos {T:List Z.Cl} (hT:Z.isTable T) {k:Int} (h0:0<=k) (h1:k<T.length):8<=szK T k/\szK T k<=512:=by
 obtain⟨o1,o2,_⟩:=(hT.2.2 k.toNat (by omega)).1
 exact⟨o1,o2⟩
def Keeps (T:List Z.Cl) (who:Who) (h:Hd) (tk:Int->Int->Nat):Prop:=∀k a,0<tk k a->tk k a=1/\0<=k/\k<T.length/\Has who (.tok h k a) a (szK T k)
theorem Keeps.none (T:List Z.Cl) (who:Who) (h:Hd):Keeps T who h (fun _ _=>0):=fun k a hk=>absurd hk (Nat.lt_irrefl 0)
theorem Keeps.less {T:List Z.Cl} {who:Who} {h:Hd} {tk tk':Int->Int->Nat} (hk:Keeps T who h tk) (hl:∀k a,tk' k a<=tk k a):Keeps T who h tk':=fun k a h0=>by
 have h1:=hl k a
 obtain⟨h2,h3⟩:=hk k a (by omega)
 exact⟨by omega,h3⟩
theorem Keeps.mv {T:List Z.Cl} {who:Who} {h:Hd} {tk:Int->Int->Nat} (hk:Keeps T who h tk) {o1 o2:Ow} {a n:Int} (h1:Has who o1 a n) (hne:∀k x,Ow.tok h k x≠o1):Keeps T (Go.Proofs.YtcidjimefnhacaaGreatDoor.mv who a n o2) h tk:=fun k x h0=>by
 obtain⟨a1,a2,a3,a4⟩:=hk k x h0
 exact⟨a1,a2,a3,a4.mv h1 (hne k x)⟩
theorem Keeps.ren {T:List Z.Cl} {who:Who} {h:Hd} {tk:Int->Int->Nat} (hk:Keeps T who h tk) {f:Ow->Ow} (hf:∀k x,0<tk k x->f (.tok h k x)=.tok h k x):Keeps T (Go.Proofs.YtcidjimefnhacaaGreatDoor.ren f who) h tk:=fun k x h0=>by
 obtain⟨a1,a2,a3,a4⟩:=hk k x h0
 exact⟨a1,a2,a3,a4.ren_ (hf k x h0)⟩
def hand (h1 h2:Hd) (d:Int->Int->Nat):Ow->Ow
 | .tok h k a=>if h=h1/\0<d k a then .tok h2 k a else .tok h k a
 |o=>o
theorem hand_ne {h1 h2 h:Hd} {d:Int->Int->Nat} {k a:Int} (hne:h≠h1):hand h1 h2 d (.tok h k a)=.tok h k a:=if_neg (fun x=>hne x.1)
theorem hand_zero {h1 h2 h:Hd} {d:Int->Int->Nat} {k a:Int} (hd:d k a=0):hand h1 h2 d (.tok h k a)=.tok h k a:=if_neg (fun x=>by omega)
theorem hand_yes {h1 h2:Hd} {d:Int->Int->Nat} {k a:Int} (hd:0<d k a):hand h1 h2 d (.tok h1 k a)=.tok h2 k a:=if_pos ⟨rfl,hd⟩
theorem Keeps.hand {T:List Z.Cl} (hT:Z.isTable T) {who:Who} {h1 h2:Hd} (hne:h1≠h2) {t1 t2 d t1' t2':Int->Int->Nat} (k1:Keeps T who h1 t1) (k2:Keeps T who h2 t2) (e1:∀k a,t1' k a+d k a<=t1 k a) (e2:∀k a,t2' k a<=t2 k a+d k a):
 Keeps T (Go.Proofs.YtcidjimefnhacaaGreatDoor.ren (Go.Proofs.YtcidjimefnhacaaGreatDoor.hand h1 h2 d) who) h1 t1'/\Keeps T (Go.Proofs.YtcidjimefnhacaaGreatDoor.ren (Go.Proofs.YtcidjimefnhacaaGreatDoor.hand h1 h2 d) who) h2 t2':=by
 constructor
 ·intro k a h0
  have x1:=e1 k a
  obtain⟨a1,a2,a3,a4⟩:=k1 k a (by omega)
  exact⟨by omega,a2,a3,a4.ren_ (hand_zero (by omega))⟩
 ·intro k a h0
  have x1:=e1 k a
  have x2:=e2 k a
  rcases Nat.eq_zero_or_pos (d k a) with hd|hd
  ·obtain⟨a1,a2,a3,a4⟩:=k2 k a (by omega)
   exact⟨by omega,a2,a3,a4.ren_ (hand_ne hne.symm)⟩
  ·obtain⟨a1,a2,a3,a4⟩:=k1 k a (by omega)
   have hz:=szK_pos hT a2 a3
   have h20:t2 k a=0:=by
    rcases Nat.eq_zero_or_pos (t2 k a) with h|h
    ·exact h
    ·obtain⟨_,_,_,b4⟩:=k2 k a h
     have:=a4.eq b4 a (Int.le_refl _) (by omega) (Int.le_refl _) (by omega)
     injection this with e _ _
     exact absurd e hne
   have:=a4.ren (Go.Proofs.YtcidjimefnhacaaGreatDoor.hand h1 h2 d)
   rw[hand_yes hd] at this
   exact⟨by omega,a2,a3,this⟩
def back7 (h:Hd) (a k:Nat) (d:Int->Nat):Ow->Ow
 | .tok h' k' x=>if h'=h/\k'=k/\0<d x then .cen a k else .tok h' k' x
 |o=>o
theorem back7_no {h h':Hd} {a k:Nat} {d:Int->Nat} {k' x:Int} (hn:¬(h'=h/\k'=k/\0<d x)):back7 h a k d (.tok h' k' x)=.tok h' k' x:=if_neg hn
theorem back7_yes {h:Hd} {a k:Nat} {d:Int->Nat} {x:Int} (hd:0<d x):back7 h a k d (.tok h k x)=.cen a k:=if_pos ⟨rfl,rfl,hd⟩
def Pg (M:List Sp) (b:Int):Prop:=∃s∈M,s.start*256<=b/\b<(s.start+s.pages)*256
def CenOwn (c:Cl) (who:Who) (o:Ow) (M:List Sp):Prop:=∀b,Pg M b->(∀a,TK c M a->¬(a<=b/\b<a+c.size))->who b=o
theorem CenOwn.mv {c:Cl} {who:Who} {o o1 o2:Ow} {M:List Sp} (h:CenOwn c who o M) {a n:Int} (h1:Has who o1 a n) (hne:o≠o1):CenOwn c (Go.Proofs.YtcidjimefnhacaaGreatDoor.mv who a n o2) o M:=fun b hp ht=>by
 have h2:=h b hp ht
 rw[mv_out (fun hb=>hne (h2.symm.trans (h1 b hb.1 hb.2)))]
 exact h2
theorem CenOwn.ren {c:Cl} {who:Who} {o:Ow} {M:List Sp} (h:CenOwn c who o M) {f:Ow->Ow} (hf:f o=o):CenOwn c (Go.Proofs.YtcidjimefnhacaaGreatDoor.ren f who) o M:=fun b hp ht=>by
 have h2:=h b hp ht
 show f (who b)=o
 rw[h2,hf]
theorem obj_in {c:Cl} {M:List Sp} (hg:GoodL c M) {i k:Nat} (hi:i<M.length) (hk:k<(sAt M i).st.length):(sAt M i).start *256<=(sAt M i).start *256+k*c.size/\(sAt M i).start *256+k*c.size+c.size<=((sAt M i).start+(sAt M i).pages)*256:=by
 obtain⟨g,h1,h2,h3⟩:=hg.sp i hi
 have a1:=g.off (i:=(k:Int)) (by omega) (by omega)
 have a2:=g.off (i:=(k:Int)+1) (by omega) (by omega)
 rw[h1] at a1 a2
 rw[Int.add_mul] at a2
 constructor<;>omega
theorem obj_apart {c:Cl} {M:List Sp} (hg:GoodL c M) {i k j m:Nat} (hi:i<M.length) (hk:k<(sAt M i).st.length) (hj:j<M.length) (hm:m<(sAt M j).st.length) (hne:i≠j\/k≠m):
 (sAt M i).start *256+k*c.size+c.size<=(sAt M j).start *256+m*c.size\/(sAt M j).start *256+m*c.size+c.size<=(sAt M i).start *256+k*c.size:=by
 have h1:=obj_in hg hi hk
 have h2:=obj_in hg hj hm
 rcases Nat.lt_trichotomy i j with h|h|h
 ·have:=hg.ord i j h hj;omega
 ·subst h
  have hkm:k≠m:=hne.resolve_left (fun x=>x rfl)
  have hs:=(hg.sp i hi).1.s1
  rw[(hg.sp i hi).2.1] at hs
  rcases Nat.lt_or_ge k m with h|h
  ·left
   have:((k:Int)+1)*c.size<=(m:Int)*c.size:=Int.mul_le_mul_of_nonneg_right (by omega) (by omega)
   rw[Int.add_mul] at this
   omega
  ·right
   have:((m:Int)+1)*c.size<=(k:Int)*c.size:=Int.mul_le_mul_of_nonneg_right (by omega) (by omega)
   rw[Int.add_mul] at this
   omega
 ·have:=hg.ord j i h hi;omega
theorem Pg.at_ {M:List Sp} {b:Int}:Pg M b↔∃i,i<M.length/\(sAt M i).start *256<=b/\b<((sAt M i).start+(sAt M i).pages)*256:=by
 constructor
 ·rintro ⟨s,hs,h⟩
  obtain⟨i,hi,rfl⟩:=List.getElem_of_mem hs
  refine⟨i,hi,?_⟩
  rw[sAt,List.getD_eq_getElem?_getD,List.getElem?_eq_getElem hi]
  exact h
 ·rintro ⟨i,hi,h⟩
  exact⟨_,sAt_mem hi,h⟩
theorem Pg.like {M N:List Sp} (h:Like N M) (b:Int):Pg N b↔Pg M b:=by
 rw[Pg.at_,Pg.at_]
 constructor
 ·rintro ⟨i,hi,h1⟩
  obtain⟨e1,_,e2,_⟩:=h.2 i hi
  exact⟨i,by rw[<-h.1];exact hi,by rw[<-e1,<-e2];exact h1⟩
 ·rintro ⟨i,hi,h1⟩
  have hi':i<N.length:=by rw[h.1];exact hi
  obtain⟨e1,_,e2,_⟩:=h.2 i hi'
  exact⟨i,hi',by rw[e1,e2];exact h1⟩
theorem CenOwn.take {c:Cl} {M:List Sp} {b:Nat} (hg:GoodL c M) (hb:bestTo M M.length=some b) {who:Who} {o o2:Ow} (h:CenOwn c who o M):
 Has who o (sAt M b).take.1.1 c.size/\CenOwn c (Go.Proofs.YtcidjimefnhacaaGreatDoor.mv who (sAt M b).take.1.1 c.size o2) o (M.set b (sAt M b).take.2):=by
 obtain⟨hl,hr⟩:=bestTo_lt _ _ _ hb
 obtain⟨kk,i1,i2,i3,i4⟩:=Sp.take_room (hg.sp b hl).1 hr
 obtain⟨g1,g2,g3⟩:=TK_take hg hb
 have hs:=(hg.sp b hl).2.1
 have hx:(sAt M b).take.1.1=(sAt M b).start *256+kk*c.size:=by rw[i4];show _+_*(sAt M b).size=_;rw[hs]
 have hin:=obj_in hg hl i2
 refine⟨fun y h1 h2=>h y (Pg.at_.2 ⟨b,hl,by omega,by omega⟩) (fun a ha hab=>?_),fun y hp ht=>?_⟩
 ·obtain⟨j,m,hj,hm,h3,rfl⟩:=TK.at_.1 ha
  by_cases e:b=j/\kk=m
  ·obtain⟨rfl,rfl⟩:=e
   rw[i3] at h3
   cases h3
  ·have:=obj_apart hg hl i2 hj hm (by omega)
   rw[hx] at h1 h2
   omega
 ·have hny:¬((sAt M b).take.1.1<=y/\y<(sAt M b).take.1.1+c.size):=ht _ ((g3 _).2 (.inl rfl))
  rw[mv_out hny]
  exact h y ((Pg.like ((Like.refl M).set (Sp.take_like _)) y).1 hp) (fun a ha=>ht a ((g3 a).2 (.inr ha)))
theorem CenOwn.takes {c:Cl} {M:List Sp} (hg:GoodL c M) {who:Who} {o:Ow} {g:Int->Ow} (hgo:∀x,g x≠o) (hgi:∀x y,g x=g y->x=y) (h:CenOwn c who o M) (n:Nat):
 GoodL c (takesTo M n).2/\∃who',CenOwn c who' o (takesTo M n).2/\(takesTo M n).1.Nodup/\(∀x∈(takesTo M n).1,Has who' (g x) x c.size)/\∀b,who b≠o->who' b=who b:=by
 induction n with
 |zero=>exact⟨hg,who,h,List.nodup_nil,fun x hx=>absurd hx (by simp[takesTo]),fun _ _=>rfl⟩
 |succ n ih=>
  obtain⟨i1,who',i2,i3,i4,i5⟩:=ih
  cases hok:(one7 (takesTo M n).2).1.2 with
  |false=>rw[takesTo,if_neg (by rw[hok];decide)];exact⟨i1,who',i2,i3,i4,i5⟩
  |true=>
   rw[takesTo_more hok]
   obtain⟨b,hb,he⟩:=one7_some hok
   obtain⟨g1,g2,g3⟩:=TK_take i1 hb
   obtain⟨c1,c2⟩:=i2.take i1 hb (o2:=g (sAt (takesTo M n).2 b).take.1.1)
   have hs:=(i1.ok).1
   rw[he]
   dsimp only
   refine⟨g1,_,c2,?_,fun x hx=>?_,fun y hy=>?_⟩
   ·rw[List.nodup_append]
    refine⟨i3,by simp,fun x hx y hy e=>?_⟩
    simp at hy
    subst hy e
    exact hgo _ ((i4 _ hx).eq c1 _ (Int.le_refl _) (by omega) (Int.le_refl _) (by omega))
   ·rcases List.mem_append.1 hx with hx|hx
    ·exact(i4 x hx).mv c1 (hgo x)
    ·simp at hx
     subst hx
     exact mv_in _ _ _ _
   ·have h5:=i5 y hy
    rw[mv_out (fun hb=>hy (h5.symm.trans (c1 y hb.1 hb.2)))]
    exact h5
theorem CenOwn.free {c:Cl} {M:List Sp} (hg:GoodL c M) {who:Who} {o:Ow} {f:Ow->Ow} (hf:f o=o) (h:CenOwn c who o M) {l:List Int} (h1:badTo M l l.length=false) (h2:twiceTo M l l.length=false) (hl:∀x∈l,∃o',Has who o' x c.size/\f o'=o) (n:Nat) (hn:n<=l.length):
 CenOwn c (Go.Proofs.YtcidjimefnhacaaGreatDoor.ren f who) o (freeTo M l n):=by
 induction n with
 |zero=>exact h.ren hf
 |succ n ih=>
  have i:=ih (by omega)
  obtain⟨g1,g2⟩:=freeTo_tk hg n (by omega) h1 h2
  have ha:=g2 n (Nat.le_refl _) (by omega)
  obtain⟨f1,_⟩:=TK_free g1 ha
  intro b hp ht
  rw[freeTo] at hp ht
  have hp':=(Pg.like (freeOne_like (freeTo M l n) (iAt l n)) b).1 hp
  by_cases hb:iAt l n<=b/\b<iAt l n+c.size
  ·have hmem:iAt l n∈l:=by
    rw[iAt,List.getD_eq_getElem?_getD,List.getElem?_eq_getElem (by omega)]
    exact List.getElem_mem (by omega)
   obtain⟨o',e1,e2⟩:=hl _ hmem
   show f (who b)=o
   rw[e1 b hb.1 hb.2,e2]
  ·refine i b hp' (fun a ha' hab=>?_)
   by_cases e:a=iAt l n
   ·subst e;exact hb hab
   ·exact ht a ((f1 a).2 ⟨e,ha'⟩) hab
theorem CenOwn.kept {c:Cl} {M:List Sp} (hg:GoodL c M) {who:Who} {o:Ow} (h:CenOwn c who o M):CenOwn c who o (keptOf M):=fun b ⟨s,hs,hb⟩ ht=>h b ⟨s,(List.mem_filter.1 hs).1,hb⟩ (fun a ha=>ht a ((TK_kept hg a).2 ha))
theorem CenOwn.zero {c:Cl} {M:List Sp} (hg:GoodL c M) {who:Who} {o:Ow} (h:CenOwn c who o M) {s:Sp} (hs:s∈M) (h0:s.many=0):Has who o (s.start*256) (s.pages*256):=fun b h1 h2=>by
 refine h b ⟨s,hs,h1,by rw[Int.add_mul];exact h2⟩ (fun a ha hab=>?_)
 obtain⟨i,m,hi,hm,h3,rfl⟩:=TK.at_.1 ha
 obtain⟨j,hj,rfl⟩:=List.getElem_of_mem hs
 have hin:=obj_in hg hi hm
 have e:M[j]=sAt M j:=by rw[sAt,List.getD_eq_getElem?_getD,List.getElem?_eq_getElem hj];rfl
 rw[e] at h0 h1 h2
 rcases Nat.lt_trichotomy i j with h|h|h
 ·have:=hg.ord i j h hj;omega
 ·subst h
  have:=(hg.sp i hi).1.many_pos hm h3
  omega
 ·have:=hg.ord j i h hi;omega
theorem CenOwn.add {c:Cl} {M:List Sp} {who:Who} {o:Ow} (h:CenOwn c who o M) {x:Int} (hx:Has who o (x*256) (c.pages*256)):CenOwn c who o (addM M c x):=fun b hp ht=>by
 by_cases hb:x*256<=b/\b<x*256+c.pages*256
 ·exact hx b hb.1 hb.2
 ·refine h b ?_ (fun a ha=>ht a ((TK_add x a).2 ha))
  obtain⟨s,hs,h1⟩:=hp
  unfold addM at hs
  split at hs
  ·simp at hs
   rcases hs with hs|rfl|hs
   ·exact⟨s,List.mem_of_mem_take hs,h1⟩
   ·exfalso
    have:(Sp.fresh x c.size c.pages c.batch).start=x/\(Sp.fresh x c.size c.pages c.batch).pages=c.pages:=⟨rfl,rfl⟩
    rw[this.1,this.2,Int.add_mul] at h1
    exact hb h1
   ·exact⟨s,List.mem_of_mem_drop hs,h1⟩
  ·exact⟨s,hs,h1⟩
end Go.Proofs.YtcidjimefnhacaaGreatDoor
