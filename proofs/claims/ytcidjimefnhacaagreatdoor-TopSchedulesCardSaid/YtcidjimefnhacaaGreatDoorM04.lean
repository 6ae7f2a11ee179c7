/- TopSchedules, a part of the proof: VA, VB, VC, VD. -/
import Derived.Test.YtcidjimefnhacaaGreatDoorM01
import Derived.Maps.OwnSet
import Derived.Maps.OwnOps
set_option linter.unusedVariables false
set_option linter.unusedSimpArgs false
namespace Go.Proofs.YtcidjimefnhacaaGreatDoor.V
open Go.RowKit
open Go.Maps Go.ChangeMaps
abbrev sl (g cp:Nat):Value:=.slice (some ⟨g,0,none⟩) 32 cp
theorem kint:Keyed Tryz.prog 3:=int_keyed Tryz.underlying3
theorem wf64 {k:Int} (h:I64 k):(Lit.int .i64 k).wf=true:=by
 unfold I64 at h
 exact Go.WalkArith.wf_i64 (by omega)
theorem kof {k:Int} (h:I64 k):keyOf Tryz.prog 3 (.int .i64 k)=some (.int .i64 k):=keyOf_int_mk Tryz.underlying3 (wf64 h)
def Dict (w:World) (b:Nat) (G:Int->Option Nat) (c:Nat):Prop:=
 ∃es clock,w.heap[b]? =some (.map es clock)/\es.size=c/\es.toList.Pairwise (fun x y=>x.key≠y.key)/\
  (∀x∈es.toList,∃k g cp,I64 k/\x.key=.int .i64 k/\(32<=cp/\x.val=sl g cp)/\G k=some g)/\(∀k g,G k=some g->I64 k/\∃x∈es.toList,x.key=.int .i64 k)/\(∀x∈es.toList,x.born<clock)/\(es.toList.map (·.born)).Nodup
namespace Dict
variable {w w':World} {b c:Nat} {G:Int->Option Nat}
theorem lt (h:Dict w b G c):b<w.heap.size:=by obtain⟨es,clock,hb,_⟩:=h;exact(Array.getElem?_eq_some_iff.1 hb).1
theorem only {l:List Nat} (h:Dict w b G c) (ho:Only l w w') (hb:b∉l):Dict w' b G c:=by
 have hl:=h.lt
 obtain⟨es,clock,h1,r⟩:=h
 exact⟨es,clock,(ho.block b hl hb).trans h1,r⟩
theorem made (w:World):Dict (w.alloc (.map #[] 0)) w.heap.size (fun _=>none) 0:=
 ⟨#[],0,heap_alloc_new w _,rfl,by simp,by simp,by simp,by simp,by simp⟩
theorem keys (h:Dict w b G c) {es:Array MapEntry} {clock:Nat} (hb:w.heap[b]? =some (.map es clock)):∀e∈es.toList,∃l,keyOf Tryz.prog 3 e.key=some l:=by
 obtain⟨es',clock',h1,h2,h3,h4,h5,_⟩:=h
 rw[h1] at hb
 injection hb with hb
 injection hb with hb _
 subst hb
 intro e he
 obtain⟨k,g,cp,hk,hk2,_⟩:=h4 e he
 exact⟨_,by rw[hk2];exact kof hk⟩
theorem look (h:Dict w b G c) {k:Int} (hk:I64 k) (ok:Bool):
 (∃g cp,G k=some g/\32<=cp/\(Instr.lookup 128 (.map (some b)) (.int .i64 k) ok).run Tryz.prog w=.ok (if ok then .tuple #[sl g cp,.bool true] else sl g cp) w)\/
 (G k=none/\(Instr.lookup 128 (.map (some b)) (.int .i64 k) ok).run Tryz.prog w=.ok (if ok then .tuple #[.slice none 0 0,.bool false] else .slice none 0 0) w):=by
 have hz:(zeroValue 37).run Tryz.prog w=.ok (.slice none 0 0) w:=by kernel_rfl
 obtain⟨es,clock,h1,h2,h3,h4,h5,h6,h7⟩:=h
 have hks:=keys ⟨es,clock,h1,h2,h3,h4,h5,h6,h7⟩ h1
 rcases kint.find w (kof hk) es.toList hks with ⟨f1,f2⟩|⟨j,e,f1,f2,f3⟩
 ·right
  refine⟨?_,by simp[Instr.lookup,run_underlying Tryz.underlying128,MapKept.run_getObj_map h1,kint.check w _ (kof hk),f1,hz,Result.andThen]⟩
  cases hg:G k with
  |none=>rfl
  |some g=>
   obtain⟨x,hx,hx2⟩:=(h5 k g hg).2
   exact absurd hx2 (f2 x hx)
 ·left
  obtain⟨k',g,cp,_,g2,⟨g5,g3⟩,g4⟩:=h4 e (List.mem_of_getElem? f2)
  rw[f3] at g2
  injection g2 with _ g2
  subst g2
  exact⟨g,cp,g4,g5,by simp[Instr.lookup,run_underlying Tryz.underlying128,MapKept.run_getObj_map h1,kint.check w _ (kof hk),f1,g3,Result.andThen]⟩
theorem put (h:Dict w b G c) {k:Int} (hk:I64 k) (hG:G k=none) (g cp:Nat) (hcp:32<=cp):
 ∃o,(Instr.mapUpdate 128 (.map (some b)) (.int .i64 k) (sl g cp)).run Tryz.prog w=.ok () (setBlock w b o)/\Dict (setBlock w b o) b (fun j=>if j=k then some g else G j) (c+1):=by
 obtain⟨es,clock,h1,h2,h3,h4,h5,h6,h7⟩:=h
 have hks:=keys ⟨es,clock,h1,h2,h3,h4,h5,h6,h7⟩ h1
 rcases kint.find w (kof hk) es.toList hks with ⟨f1,f2⟩|⟨j,e,f1,f2,f3⟩
 ·refine⟨.map (es.push ⟨.int .i64 k,sl g cp,clock⟩) (clock+1),?_,_,_,heap_setBlock_same h1 _,by simp[h2],?_,?_,?_,?_,?_⟩
  ·simp[Instr.mapUpdate,run_underlying Tryz.underlying128,MapKept.run_getObj_map h1,kint.check w false (kof hk),f1,MapKept.run_setObj_map _ h1,Result.andThen,setBlock]
  ·rw[Array.toList_push,List.pairwise_append]
   refine⟨h3,by simp,fun x hx y hy=>?_⟩
   rw[List.mem_singleton] at hy
   rw[hy]
   exact f2 x hx
  ·intro x hx
   rw[Array.toList_push,List.mem_append,List.mem_singleton] at hx
   rcases hx with hx|rfl
   ·obtain⟨k',g',cp',a1,a2,a3,a4⟩:=h4 x hx
    refine⟨k',g',cp',a1,a2,a3,?_⟩
    dsimp only
    rw[if_neg]
    ·exact a4
    ·rintro rfl
     rw[hG] at a4
     cases a4
   ·exact⟨k,g,cp,hk,rfl,⟨hcp,rfl⟩,by simp⟩
  ·intro k' g' hg'
   dsimp only at hg'
   by_cases e:k'=k
   ·subst e
    exact⟨hk,⟨.int .i64 k',sl g cp,clock⟩,by simp,rfl⟩
   ·rw[if_neg e] at hg'
    obtain⟨a1,x,hx,hx2⟩:=h5 k' g' hg'
    exact⟨a1,x,by simp;exact .inl (by simpa using hx),hx2⟩
  ·intro x hx
   rw[Array.toList_push,List.mem_append,List.mem_singleton] at hx
   rcases hx with hx|rfl
   ·have:=h6 x hx;omega
   ·exact Nat.lt_succ_self _
  ·rw[Array.toList_push,List.map_append,List.nodup_append]
   refine⟨h7,by simp,?_⟩
   intro a ha b hb
   obtain⟨x,hx,rfl⟩:=List.mem_map.1 ha
   simp at hb
   have:=h6 x hx
   omega
 ·obtain⟨k',g',cp',_,g2,g3,g4⟩:=h4 e (List.mem_of_getElem? f2)
  rw[f3] at g2
  injection g2 with _ g2
  subst g2
  rw[hG] at g4
  cases g4
theorem del (h:Dict w b G c) {k:Int} (hk:I64 k) (ty:TypeId):
 ∃o,(Builtin.delete_ #[128,3] ty #[.map (some b),.int .i64 k]).run Tryz.prog w=.ok (.tuple #[]) (setBlock w b o)/\Dict (setBlock w b o) b (fun j=>if j=k then none else G j) (if(G k).isSome then c-1 else c):=by
 obtain⟨es,clock,h1,h2,h3,h4,h5,h6,h7⟩:=h
 have hks:=keys ⟨es,clock,h1,h2,h3,h4,h5,h6,h7⟩ h1
 rcases kint.find w (kof hk) es.toList hks with ⟨f1,f2⟩|⟨j,e,f1,f2,f3⟩
 ·have hn:G k=none:=by
   cases hg:G k with
   |none=>rfl
   |some g=>
    obtain⟨x,hx,hx2⟩:=(h5 k g hg).2
    exact absurd hx2 (f2 x hx)
  refine⟨.map es clock,?_,es,clock,heap_setBlock_same h1 _,by simp[hn,h2],h3,?_,?_,h6,h7⟩
  ·simp[Builtin.delete_,run_underlying Tryz.underlying128,MapKept.run_getObj_map h1,kint.check w _ (kof hk),f1,MapKept.run_setObj_map _ h1,Result.andThen,setBlock]
  ·intro x hx
   obtain⟨k',g',cp',a1,a2,a3,a4⟩:=h4 x hx
   refine⟨k',g',cp',a1,a2,a3,?_⟩
   dsimp only
   rw[if_neg]
   ·exact a4
   ·rintro rfl
    exact f2 x hx a2
  ·intro k' g' hg'
   dsimp only at hg'
   by_cases e:k'=k
   ·rw[if_pos e] at hg';cases hg'
   ·rw[if_neg e] at hg'
    exact h5 k' g' hg'
 ·obtain⟨k0,g0,cp0,_,g2,g3,g4⟩:=h4 e (List.mem_of_getElem? f2)
  rw[f3] at g2
  injection g2 with _ g2
  subst g2
  have hjl:j<es.toList.length:=(List.getElem?_eq_some_iff.1 f2).1
  have hjs:j<es.size:=by simpa using hjl
  have hsub:(es.eraseIdxIfInBounds j).toList=es.toList.eraseIdx j:=by
   unfold Array.eraseIdxIfInBounds
   rw[dif_pos hjs]
   simp
  have hej:es.toList[j]=e:=by rw[List.getElem?_eq_getElem hjl] at f2;exact Option.some.inj f2
  have hmem:∀x,x∈es.toList.eraseIdx j↔x∈es.toList/\x.key≠ .int .i64 k:=by
   intro x
   rw[List.mem_eraseIdx_iff_getElem]
   constructor
   ·rintro ⟨i,hi,hne,rfl⟩
    refine⟨List.getElem_mem hi,?_⟩
    rw[<-f3,<-hej]
    rcases Nat.lt_or_gt_of_ne hne with hl|hl
    ·exact List.pairwise_iff_getElem.1 h3 i j hi hjl hl
    ·exact(List.pairwise_iff_getElem.1 h3 j i hjl hi hl).symm
   ·rintro ⟨hx,hne⟩
    obtain⟨i,hi,rfl⟩:=List.getElem_of_mem hx
    refine⟨i,hi,?_,rfl⟩
    rintro rfl
    rw[hej,f3] at hne
    exact hne rfl
  refine⟨.map (es.eraseIdxIfInBounds j) clock,?_,_,clock,heap_setBlock_same h1 _,?_,?_,?_,?_,?_,?_⟩
  ·simp[Builtin.delete_,run_underlying Tryz.underlying128,MapKept.run_getObj_map h1,kint.check w _ (kof hk),f1,MapKept.run_setObj_map _ h1,Result.andThen,setBlock]
  ·rw[g4]
   have:(es.eraseIdxIfInBounds j).size=(es.toList.eraseIdx j).length:=by rw[<-hsub,Array.length_toList]
   rw[this,List.length_eraseIdx_of_lt hjl,Array.length_toList,h2]
   rfl
  ·rw[hsub]
   exact h3.sublist (List.eraseIdx_sublist _ _)
  ·intro x hx
   rw[hsub] at hx
   obtain⟨hx1,hx2⟩:=(hmem x).1 hx
   obtain⟨k',g',cp',a1,a2,a3,a4⟩:=h4 x hx1
   refine⟨k',g',cp',a1,a2,a3,?_⟩
   dsimp only
   rw[if_neg]
   ·exact a4
   ·rintro rfl
    exact hx2 a2
  ·intro k' g' hg'
   dsimp only at hg'
   by_cases e:k'=k
   ·rw[if_pos e] at hg';cases hg'
   ·rw[if_neg e] at hg'
    obtain⟨a1,x,hx,hx2⟩:=h5 k' g' hg'
    refine⟨a1,x,?_,hx2⟩
    rw[hsub,hmem]
    refine⟨hx,?_⟩
    rw[hx2]
    intro e2
    injection e2 with _ e2
    exact e e2
  ·intro x hx
   rw[hsub] at hx
   exact h6 x ((List.eraseIdx_sublist _ _).subset hx)
  ·rw[hsub]
   exact h7.sublist ((List.eraseIdx_sublist _ _).map _)
theorem len (h:Dict w b G c) (ty:TypeId):(Builtin.len_ #[128] ty #[.map (some b)]).run Tryz.prog w=.ok (.int .i64 c) w:=by
 obtain⟨es,clock,h1,h2,h3,h4,h5,_⟩:=h
 simp[Builtin.len_,run_underlying Tryz.underlying128,MapKept.run_getObj_map h1,goInt,h2,Result.andThen]
theorem same (h:Dict w b G c) {b' c':Nat} {G':Int->Option Nat} (h':Dict w' b' G' c') (hs:∀i,(G i).isSome=(G' i).isSome):c=c':=by
 obtain⟨es,clock,h1,h2,h3,h4,h5,_⟩:=h
 obtain⟨es',clock',h1',h2',h3',h4',h5',_⟩:=h'
 have key:∀{es es':Array MapEntry} {G G':Int->Option Nat},es.toList.Pairwise (fun x y=>x.key≠y.key)->(∀x∈es.toList,∃k g cp,I64 k/\x.key=.int .i64 k/\(32<=cp/\x.val=sl g cp)/\G k=some g)->
  (∀k g,G' k=some g->I64 k/\∃x∈es'.toList,x.key=.int .i64 k)->(∀i,(G i).isSome=true->(G' i).isSome=true)->es.size<=es'.size:=by
  intro es es' G G' p3 p4 p5 ps
  have hl:=List.Nodup.length_le_of_subset (l₁:=es.toList.map (·.key)) (l₂:=es'.toList.map (·.key)) (List.pairwise_map.2 p3) (fun v hv=>by
   obtain⟨x,hx,rfl⟩:=List.mem_map.1 hv
   obtain⟨k,g,cp,_,e1,_,e2⟩:=p4 x hx
   have:(G' k).isSome=true:=ps k (by rw[e2];rfl)
   obtain⟨g',hg'⟩:=Option.isSome_iff_exists.1 this
   obtain⟨_,y,hy,hy2⟩:=p5 k g' hg'
   exact List.mem_map.2 ⟨y,hy,by rw[hy2,e1]⟩)
  simpa using hl
 have a1:=key h3 h4 h5' (fun i hi=>by rw[<-hs];exact hi)
 have a2:=key h3' h4' h5 (fun i hi=>by rw[hs];exact hi)
 omega
end Dict
end Go.Proofs.YtcidjimefnhacaaGreatDoor.V
namespace Go.Proofs.YtcidjimefnhacaaGreatDoor.V
open Go.RowKit
structure SpM where
 n:Nat
 st:Int->Int
 h:Int->Int
 pk:Int
def cntTo (st:Int->Int) (v:Int):Nat->Nat
 |0=>0
 |k+1=>cntTo st v k+if st k=v then 1 else 0
theorem cntTo_le (st:Int->Int) (v:Int) (k:Nat):cntTo st v k<=k:=by
 induction k with
 |zero=>exact Nat.le_refl _
 |succ k ih=>unfold cntTo;split<;>omega
theorem cntTo_congr {st st':Int->Int} {v:Int} (k:Nat) (h:∀i:Nat,i<k->(st i=v↔st' i=v)):cntTo st v k=cntTo st' v k:=by
 induction k with
 |zero=>rfl
 |succ k ih=>
  unfold cntTo
  rw[ih (fun i hi=>h i (by omega))]
  have:=h k (by omega)
  by_cases e:st k=v
  ·rw[if_pos e,if_pos (this.1 e)]
  ·rw[if_neg e,if_neg (fun e'=>e (this.2 e'))]
theorem cntTo_set (st:Int->Int) (v x:Int) (p:Nat):∀k:Nat,p<k->cntTo (fun i=>if i=(p:Int) then x else st i) v k+(if st p=v then 1 else 0)=cntTo st v k+(if x=v then 1 else 0):=by
 intro k
 induction k with
 |zero=>intro h;omega
 |succ k ih=>
  intro hp
  simp only[cntTo]
  by_cases e:p=k
  ·subst e
   have e1:cntTo (fun i=>if i=(p:Int) then x else st i) v p=cntTo st v p:=cntTo_congr p (fun i hi=>by
    have:¬((i:Int)=(p:Int)):=by omega
    simp[this])
   rw[e1]
   simp
   omega
  ·have e2:¬((k:Int)=(p:Int)):=by omega
   have:=ih (by omega)
   simp only[if_neg e2]
   omega
namespace SpM
def fresh (n:Nat):SpM:=⟨n,fun _=>0,fun _=>0,0⟩
def dirty (m:SpM):Nat:=cntTo m.st 2 m.n
def setR (m:SpM) (a b v:Int):SpM:={m with st:=fun i=>if a<=i/\i<a+b then v else m.st i,h:=fun j=>if a<=j/32/\j/32<a+b then 0 else m.h j}
def putW (m:SpM) (j v:Int):SpM:=
 {m with st:=fun i=>if i=j/32 then 2 else m.st i,h:=fun k=>if k=j then v else m.h k,
         pk:=if m.st (j/32)=2 then m.pk else max m.pk (cntTo (fun i=>if i=j/32 then 2 else m.st i) 2 m.n)}
structure good (m:SpM):Prop where
 n1:1<=m.n
 n2:m.n<=1024
 s1:∀i,m.st i=0\/m.st i=1\/m.st i=2
 h0:∀j,m.st (j/32)≠2->m.h j=0
 h1:∀j,I64 (m.h j)
 p0:(m.dirty:Int)<=m.pk
 p1:m.pk<=1024
end SpM
def pcell (st:Int->Int) (k:Nat):Value:=if k%2=0 then .bool (st ((k/2:Nat):Int) != 0) else .bool (st ((k/2:Nat):Int)==2)
structure Env (w:World):Prop where
 u0:w.cell? ⟨0,0,none⟩=some (.bool false)
 u1:w.cell? ⟨0,1,none⟩=some (.bool false)
 c0:w.cell? ⟨2,0,none⟩=some (.bool true)
 c1:w.cell? ⟨2,1,none⟩=some (.bool false)
 d0:w.cell? ⟨1,0,none⟩=some (.bool true)
 d1:w.cell? ⟨1,1,none⟩=some (.bool true)
theorem Env.only {w w':World} {l:List Nat} (h:Env w) (ho:Only l w w') (hl:∀b∈l,3<=b):Env w':=by
 have h0:(0:Nat)∉l:=fun hb=>by have:=hl _ hb;omega
 have h1:(1:Nat)∉l:=fun hb=>by have:=hl _ hb;omega
 have h2:(2:Nat)∉l:=fun hb=>by have:=hl _ hb;omega
 exact⟨(ho.cell (p:=⟨0,0,none⟩) (World.block_lt_of_cell? w _ h.u0) h0).trans h.u0,(ho.cell (p:=⟨0,1,none⟩) (World.block_lt_of_cell? w _ h.u1) h0).trans h.u1,
  (ho.cell (p:=⟨2,0,none⟩) (World.block_lt_of_cell? w _ h.c0) h2).trans h.c0,(ho.cell (p:=⟨2,1,none⟩) (World.block_lt_of_cell? w _ h.c1) h2).trans h.c1,
  (ho.cell (p:=⟨1,0,none⟩) (World.block_lt_of_cell? w _ h.d0) h1).trans h.d0,(ho.cell (p:=⟨1,1,none⟩) (World.block_lt_of_cell? w _ h.d1) h1).trans h.d1⟩
def Row (w:World) (g:Nat) (n:Nat) (f:Nat->Value):Prop:=∃t cs,Blk w g t cs/\n<=cs.size/\∀k,k<n->cs[k]? =some (f k)
namespace Row
variable {w w':World} {g n:Nat} {f f':Nat->Value}
theorem lt (h:Row w g n f):g<w.heap.size:=by obtain⟨t,cs,hb,_⟩:=h;exact hb.lt
theorem only {l:List Nat} (h:Row w g n f) (ho:Only l w w') (hg:g∉l):Row w' g n f:=by obtain⟨t,cs,hb,r⟩:=h;exact⟨t,cs,hb.only ho hg,r⟩
theorem cell (h:Row w g n f) {k:Nat} (hk:k<n):w.cell? ⟨g,k,none⟩=some (f k):=by obtain⟨t,cs,hb,h1,h2⟩:=h;exact hb.cell_ k (h2 k hk)
theorem frozen (h:Row w g n f) (k:Nat):w.frozen? ⟨g,k,none⟩=false:=by obtain⟨t,cs,hb,_⟩:=h;exact hb.frozen k
theorem congr (h:Row w g n f) (he:∀k,k<n->f k=f' k):Row w g n f':=by
 obtain⟨t,cs,hb,h1,h2⟩:=h
 exact⟨t,cs,hb,h1,fun k hk=>by rw[h2 k hk,he k hk]⟩
theorem set_ (h:Row w g n f) (i:Nat) (u:Value):Row (w.setCell ⟨g,i,none⟩ u) g n (fun k=>if k=i then u else f k):=by
 obtain⟨t,cs,hb,h1,h2⟩:=h
 refine⟨t,_,hb.set_ i u,by simpa using h1,fun k hk=>?_⟩
 rw[Array.getElem?_setIfInBounds]
 by_cases e:i=k
 ·subst e
  simp[show i<cs.size by omega]
 ·rw[if_neg e,h2 k hk]
  dsimp only
  rw[if_neg (fun e'=>e e'.symm)]
theorem drew (h:Row w g n f):Row w.drew g n f:=h
theorem alloc (h:Row w g n f) (o:Obj):Row (w.alloc o) g n f:=by obtain⟨t,cs,hb,r⟩:=h;exact⟨t,cs,hb.alloc o,r⟩
theorem far (h:Row w g n f) {p:Addr} (hp:g≠p.block) (u:Value):Row (w.setCell p u) g n f:=by obtain⟨t,cs,hb,r⟩:=h;exact⟨t,cs,hb.far hp u,r⟩
end Row
structure Parts (w:World) (p:Nat) (l:List Nat) (m:SpM) (gp cap gm:Nat) (G:Int->Option Nat):Prop where
 pl:p∈l
 gl:gp∈l
 ml:gm∈l
 pg:p≠gp
 pm:p≠gm
 gg:gp≠gm
 blk:Blk w p 130 #[.slice (some ⟨gp,0,none⟩) m.n cap,.map (some gm),.int .i64 m.pk]
 cap_:m.n<=cap
 row:Row w gp (2*m.n) (pcell m.st)
 dict:Dict w gm G m.dirty
 words:∀i g,G i=some g->(0<=i/\i<m.n/\m.st i=2)/\g∈l/\g≠p/\g≠gp/\g≠gm/\Row w g 32 (fun k=>.int .i64 (m.h (32*i+k)))
 all:∀i:Int,0<=i->i<m.n->m.st i=2->∃g,G i=some g
 inj:∀i j g,G i=some g->G j=some g->i=j
structure SpaceAt (w:World) (p:Nat) (l:List Nat) (m:SpM):Prop where
 good:m.good
 l3:∀b∈l,3<=b
 lt:∀b∈l,b<w.heap.size
 at_:∃(gp cap gm:Nat) (G:Int->Option Nat),Parts w p l m gp cap gm G
theorem Parts.only {w w':World} {p:Nat} {l l':List Nat} {m:SpM} {gp cap gm:Nat} {G:Int->Option Nat} (h:Parts w p l m gp cap gm G) (ho:Only l' w w') (hl:∀b∈l,b∉l'):Parts w' p l m gp cap gm G:=by
 obtain⟨a1,a2,a3,a4,a5,a6,b1,b2,b3,b4,b5,b6,b7⟩:=h
 refine⟨a1,a2,a3,a4,a5,a6,b1.only ho (hl _ a1),b2,b3.only ho (hl _ a2),b4.only ho (hl _ a3),fun i g hi=>?_,b6,b7⟩
 obtain⟨c1,c2,c3,c4,c5,c6⟩:=b5 i g hi
 exact⟨c1,c2,c3,c4,c5,c6.only ho (hl _ c2)⟩
theorem SpaceAt.only {w w':World} {p:Nat} {l l':List Nat} {m:SpM} (h:SpaceAt w p l m) (ho:Only l' w w') (hl:∀b∈l,b∉l'):SpaceAt w' p l m:=by
 obtain⟨hg,h3,h4,gp,cap,gm,G,hp⟩:=h
 exact⟨hg,h3,fun b hb=>Nat.lt_of_lt_of_le (h4 b hb) ho.size,gp,cap,gm,G,hp.only ho hl⟩
theorem SpaceAt.still {w w':World} {p:Nat} {l:List Nat} {m:SpM} (h:SpaceAt w p l m) (ho:Only [] w w'):SpaceAt w' p l m:=h.only ho (by simp)
end Go.Proofs.YtcidjimefnhacaaGreatDoor.V
namespace Go.Proofs.YtcidjimefnhacaaGreatDoor.V
open Go.RowKit
theorem made_any {w:World} {p:Nat} {l:List Nat} {m:SpM} (h:SpaceAt w p l m):Still Tryz.prog 67 #[.pointer (some ⟨p,0,none⟩)] w (.bool true):=by
 obtain⟨hg,h3,h4,gp,cap,gm,G,a1,a2,a3,a4,a5,a6,b1,b2,_⟩:=h
 have z0:=b1.cell_ 0 rfl
 have hn:=hg.n1
 have hn2:=hg.n2
 have d0:decide (0<(m.n:Int))=true:=decide_eq_true (by omega)
 have d1:decide (0<m.n)=true:=decide_eq_true (by omega)
 clear b1 hg
 generalize m.n=n at *
 go_enter Tryz.func67,Tryz.ntmps67
 go_wp2_with fail
 go_ret
 exact⟨rfl,rfl⟩
def SpM.inR (m:SpM) (a b:Int):Prop:=0<=a/\1<=b/\a<=m.n/\b<=m.n-a
instance (m:SpM) (a b:Int):Decidable (m.inR a b):=by unfold SpM.inR;infer_instance
def ReadsP (w:World) (A:Option Addr) (n:Nat) (f:Nat->Int):Prop:=0<n->∃ad,A=some ad/\∀k,k<n->w.cell? (ad.add (k*2))=some (.bool (f k != 0))/\w.cell? ⟨(ad.add (k*2)).block,(ad.add (k*2)).off+1,none⟩=some (.bool (f k==2))
theorem ReadsP.still {w w':World} {A:Option Addr} {n:Nat} {f:Nat->Int} (h:ReadsP w A n f) (ho:Only [] w w'):ReadsP w' A n f:=by
 intro h0
 obtain⟨ad,rfl,hc⟩:=h h0
 refine⟨ad,rfl,fun k hk=>?_⟩
 obtain⟨c1,c2⟩:=hc k hk
 exact⟨(ho.cell (World.block_lt_of_cell? w _ c1) (by simp)).trans c1,(ho.cell (World.block_lt_of_cell? w _ c2) (by simp)).trans c2⟩
theorem Row.reads {w:World} {gp n:Nat} {st:Int->Int} (h:Row w gp (2*n) (pcell st)) {a:Int} {b:Nat} (h0:0<=a) (hb:a+b<=n):ReadsP w (some ⟨gp,a.toNat*2,none⟩) b (fun k=>st (a+k)):=by
 intro _
 refine⟨_,rfl,fun k hk=>?_⟩
 have e:(⟨gp,a.toNat*2,none⟩:Addr).add (k*2)=⟨gp,2*(a.toNat+k),none⟩:=by
  unfold Addr.add
  split
  ·rename_i hz
   have:k=0:=by omega
   subst this
   simp[Nat.mul_comm]
  ·simp
   omega
 have ea:((a.toNat+k:Nat):Int)=a+k:=by omega
 have c0:=h.cell (k:=2*(a.toNat+k)) (by omega)
 have c1:=h.cell (k:=2*(a.toNat+k)+1) (by omega)
 unfold pcell at c0 c1
 rw[if_pos (by omega),show 2*(a.toNat+k)/2=a.toNat+k by omega,ea] at c0
 rw[if_neg (by omega),show(2*(a.toNat+k)+1)/2=a.toNat+k by omega,ea] at c1
 rw[e]
 exact⟨c0,c1⟩
set_option maxHeartbeats 1600000 in
theorem run_any {w:World} {p:Nat} {l:List Nat} {m:SpM} (h:SpaceAt w p l m) (a b:Int) (ha:I64 a) (hb:I64 b):
 Calls Tryz.prog 186 #[.pointer (some ⟨p,0,none⟩),.int .i64 a,.int .i64 b] w fun e w'=>w=w'/\
  (m.inR a b->∃A c,e=.returned (.tuple #[.slice A b.toNat c,.int .i64 0])/\ReadsP w A b.toNat (fun k=>m.st (a+k)))/\(¬m.inR a b->e=.returned (.tuple #[.slice none 0 0,.int .i64 1])):=by
 have CM:=Lib.hid (made_any h)
 obtain⟨hg,h3,h4,gp,cap,gm,G,a1,a2,a3,a4,a5,a6,b1,b2,b3,_⟩:=h
 have z0:=b1.cell_ 0 rfl
 have hn:=hg.n1
 have hn2:=hg.n2
 have HR:=Lib.hid b3
 clear b1 hg b3
 by_cases hin:m.inR a b
 ·have HIN:=Lib.hid hin
  obtain⟨i1,i2,i3,i4⟩:=hin
  have d0:decide (a<0)=false:=decide_eq_false (by omega)
  have d1:decide (b<1)=false:=decide_eq_false (by omega)
  have d2:decide ((m.n:Int)<a)=false:=decide_eq_false (by omega)
  have d3:decide ((m.n:Int)-a<b)=false:=decide_eq_false (by omega)
  generalize m.n=n at *
  go_enter Tryz.func186,Tryz.ntmps186
  go_wp2_with (first|(go_at_call 67;refine Still.use CM.out ?_))
  go_ret2
  have e1:(a+b).toNat -a.toNat=b.toNat:=by omega
  refine⟨rfl,fun _=>⟨some ⟨gp,a.toNat*2,none⟩,cap-a.toNat,by rw[<-e1];rfl,?_⟩,fun h=>absurd HIN.out h⟩
  exact HR.out.reads (a:=a) i1 (by omega)
 ·have D:Hid (a<0\/(¬a<0/\b<1)\/(¬a<0/\¬b<1/\(m.n:Int)<a)\/(¬a<0/\¬b<1/\¬(m.n:Int)<a/\(m.n:Int)-a<b)):=by show _\/_;unfold SpM.inR at hin;omega
  have HN:=Lib.hid hin
  clear hin
  generalize m.n=n at *
  rcases D.out with e|⟨e,f⟩|⟨e,f,g⟩|⟨e,f,g,h⟩
  ·have d0:=decide_eq_true e
   clear D
   go_enter Tryz.func186,Tryz.ntmps186
   go_wp2_with (first|(go_at_call 67;refine Still.use CM.out ?_))
   go_ret2
   exact⟨rfl,fun h=>absurd h HN.out,fun _=>rfl⟩
  ·have d0:=decide_eq_false e
   have d1:=decide_eq_true f
   clear D
   go_enter Tryz.func186,Tryz.ntmps186
   go_wp2_with (first|(go_at_call 67;refine Still.use CM.out ?_))
   go_ret2
   exact⟨rfl,fun h=>absurd h HN.out,fun _=>rfl⟩
  ·have d0:=decide_eq_false e
   have d1:=decide_eq_false f
   have d2:=decide_eq_true g
   clear D
   go_enter Tryz.func186,Tryz.ntmps186
   go_wp2_with (first|(go_at_call 67;refine Still.use CM.out ?_))
   go_ret2
   exact⟨rfl,fun h=>absurd h HN.out,fun _=>rfl⟩
  ·have d0:=decide_eq_false e
   have d1:=decide_eq_false f
   have d2:=decide_eq_false g
   have d3:=decide_eq_true h
   clear D
   go_enter Tryz.func186,Tryz.ntmps186
   go_wp2_with (first|(go_at_call 67;refine Still.use CM.out ?_))
   go_ret2
   exact⟨rfl,fun h=>absurd h HN.out,fun _=>rfl⟩
def anyTo (q:Int->Bool) (f:Nat->Int):Nat->Bool
 |0=>false
 |k+1=>anyTo q f k||q (f k)
theorem anyTo_true {q:Int->Bool} {f:Nat->Int} {n:Nat}:anyTo q f n=true↔∃k,k<n/\q (f k)=true:=by
 induction n with
 |zero=>simp[anyTo]
 |succ n ih=>
  unfold anyTo
  rw[Bool.or_eq_true,ih]
  constructor
  ·rintro (⟨k,hk,h⟩|h)
   ·exact⟨k,by omega,h⟩
   ·exact⟨n,by omega,h⟩
  ·rintro ⟨k,hk,h⟩
   rcases Nat.lt_or_ge k n with h1|h1
   ·exact .inl ⟨k,h1,h⟩
   ·have:k=n:=by omega
    subst this
    exact .inr h
theorem pred_any (w:World) (hE:Env w) (x y:Bool):Grew Tryz.prog 188 #[.agg #[.bool x,.bool y]] w (.bool (x||y)):=by
 obtain⟨e1,e2,_,_,_,_⟩:=hE
 have e1:=(((Only.refl [] w).alloc (.cells #[.bool x,.bool y] 156)).cell (World.block_lt_of_cell? w _ e1) (by simp)).trans e1
 have e2:=(((Only.refl [] w).alloc (.cells #[.bool x,.bool y] 156)).cell (World.block_lt_of_cell? w _ e2) (by simp)).trans e2
 have b:=Blk.new w 156 #[.bool x,.bool y]
 have b0:=b.cell_ 0 rfl
 have b1:=b.cell_ 1 rfl
 cases x<;>cases y
 all_goals
  go_enter Tryz.func188,Tryz.ntmps188
  go_wp2
  go_ret
  exact⟨rfl,(Only.refl [] w).alloc _⟩
set_option maxHeartbeats 1600000 in
theorem IndexFunc_any (w:World) (hE:Env w) (A:Option Addr) (n c:Nat) (f:Nat->Int) (hr:ReadsP w A n f) (hn:n<=9223372036854775807) (hf:∀k,f k=0\/f k=1\/f k=2):
 Calls Tryz.prog 211 #[.slice A n c,.func (.func 188) #[] #[]] w fun e w'=>Only [] w w'/\∃i:Int,e=.returned (.int .i64 i)/\(decide (0<=i)=anyTo (fun v=>v != 0) f n):=by
 have HR:=Lib.hid hr
 have HE:=Lib.hid hE
 have HF:=Lib.hid hf
 clear hr hE hf
 go_enter Tryz.func211,Tryz.ntmps211
 go_wp2_with fail
 go_loopw[8] (fun t wr=>∃k:Nat,k<=n/\t=.int .i64 k/\Only [] w wr/\Hid (anyTo (fun v=>v != 0) f k=false)) (fun t _=>n-(intOf t).toNat)
 case atStart=>exact⟨0,Nat.zero_le _,rfl,Only.refl _ _,rfl⟩
 case round=>
  obtain⟨k,hk,rfl,ho,HK⟩:=hrel
  by_cases hlt:k<n
  ·obtain⟨ad,rfl,hc⟩:=HR.out.still ho (by omega)
   obtain⟨c1,c2⟩:=hc k hlt
   have hxy:(f k==2)=true->(f k != 0)=true:=by have:=HF.out k;intro h;rw[beq_iff_eq] at h;rw[h];rfl
   have HA:Hid (anyTo (fun v=>v != 0) f (k+1)=(anyTo (fun v=>v != 0) f k||(f k != 0))):=rfl
   have HT:=Lib.hid (fun (h:(f k != 0)=true)=>(anyTo_true (q:=fun v=>v != 0) (f:=f) (n:=n)).2 ⟨k,hlt,h⟩)
   clear hc
   generalize (f k != 0)=x at *
   generalize (f k==2)=y at *
   have CH:=Lib.hid (pred_any wr (HE.out.only ho (by simp)) x y)
   cases x
   ·have hy:y=false:=by cases y;rfl;exact absurd (hxy rfl) (by simp)
    subst hy
    have HN2:=Lib.hid (HA.out.trans (by rw[HK.out]))
    clear HA HT hxy
    go_wp2_with (first|(go_at_call 188;refine Grew.use CH.out (fun w2 ho2=>?_)))
    go_roundw
    case rel=>exact⟨k+1,by omega,by go_num,ho.trans ho2,HN2⟩
    case measure=>simp[intOf];omega
   ·have HN2:=Lib.hid (HT.out rfl)
    clear HA HT hxy
    go_wp2_with (first|(go_at_call 188;refine Grew.use CH.out (fun w2 ho2=>?_)))
    go_ret
    exact⟨ho.trans ho2,k,rfl,by rw[HN2.out];simp⟩
  ·have e:k=n:=by omega
   subst e
   go_wp2_with fail
   go_ret
   exact⟨ho, -1,rfl,by rw[HK.out];rfl⟩
end Go.Proofs.YtcidjimefnhacaaGreatDoor.V
namespace Go.Proofs.YtcidjimefnhacaaGreatDoor.V
open Go.RowKit
theorem ContainsFunc_any (w:World) (hE:Env w) (A:Option Addr) (n c:Nat) (f:Nat->Int) (hr:ReadsP w A n f) (hn:n<=9223372036854775807) (hf:∀k,f k=0\/f k=1\/f k=2):
 Grew Tryz.prog 187 #[.slice A n c,.func (.func 188) #[] #[]] w (.bool (anyTo (fun v=>v != 0) f n)):=by
 have C:=Lib.hid (IndexFunc_any w hE A n c f hr hn hf)
 go_enter Tryz.func187,Tryz.ntmps187
 go_wp2_with fail
 refine C.out.mono ?_
 rintro e w1 ⟨ho,i,rfl,hi⟩
 go_wp2_with fail
 go_ret
 exact⟨rfl,ho⟩
set_option maxHeartbeats 1600000 in
theorem Index_any (w:World) (A:Option Addr) (n c:Nat) (f:Nat->Int) (hr:ReadsP w A n f) (hn:n<=9223372036854775807) (hf:∀k,f k=0\/f k=1\/f k=2):
 Calls Tryz.prog 76 #[.slice A n c,.agg #[.bool false,.bool false]] w fun e w'=>Only [] w w'/\∃i:Int,e=.returned (.int .i64 i)/\(decide (0<=i)=anyTo (fun v=>v==0) f n):=by
 have ho0:=(Only.refl [] w).alloc (.cells #[.bool false,.bool false] 156)
 have b:=Blk.new w 156 #[.bool false,.bool false]
 have b0:=b.cell_ 0 rfl
 have b1:=b.cell_ 1 rfl
 have HR:=Lib.hid (hr.still ho0)
 have HF:=Lib.hid hf
 clear hr hf b
 go_enter Tryz.func76,Tryz.ntmps76
 go_wp2_with fail
 generalize w.alloc (.cells #[.bool false,.bool false] 156)=w0 at *
 go_loopw[8] (fun t wr=>∃k:Nat,k<=n/\t=.int .i64 k/\Only [] w0 wr/\Hid (anyTo (fun v=>v==0) f k=false)) (fun t _=>n-(intOf t).toNat)
 case atStart=>exact⟨0,Nat.zero_le _,rfl,Only.refl _ _,rfl⟩
 case round=>
  obtain⟨k,hk,rfl,ho,HK⟩:=hrel
  by_cases hlt:k<n
  ·obtain⟨ad,rfl,hc⟩:=HR.out.still ho (by omega)
   obtain⟨c1,c2⟩:=hc k hlt
   have hxy:(f k==2)=true->(f k != 0)=true:=by have:=HF.out k;intro h;rw[beq_iff_eq] at h;rw[h];rfl
   have HA:Hid (anyTo (fun v=>v==0) f (k+1)=(anyTo (fun v=>v==0) f k||(f k==0))):=rfl
   have HT:=Lib.hid (fun (h:(f k==0)=true)=>(anyTo_true (q:=fun v=>v==0) (f:=f) (n:=n)).2 ⟨k,hlt,h⟩)
   have hz:(f k==0)= !(f k != 0):=by simp[bne]
   rw[hz] at HA HT
   have g0:=cell_after ((ho.cell (World.block_lt_of_cell? _ _ b0) (by simp)).trans b0)
   have g1:=cell_after ((ho.cell (World.block_lt_of_cell? _ _ b1) (by simp)).trans b1)
   have h1:=cell_after c1
   have h2:=cell_after c2
   clear hc hz c1 c2
   generalize (f k != 0)=x at *
   generalize (f k==2)=y at *
   cases x
   ·have hy:y=false:=by cases y;rfl;exact absurd (hxy rfl) (by simp)
    subst hy
    have HN2:=Lib.hid (HT.out rfl)
    clear HA HT hxy
    go_wp2_with fail
    refine wp_region_grew (by kernel_rfl) (by kernel_rfl) ?_
    repeat (go_big_quiet_step (fail))
    refine wpQuiet_nil ?_
    rintro _ ⟨⟨w2,ho2⟩,rfl⟩
    go_wp2_with fail
    go_ret
    exact⟨ho0.trans (ho.trans ho2),k,rfl,by rw[HN2.out];simp⟩
   ·have HN2:=Lib.hid (HA.out.trans (by rw[HK.out]))
    cases y
    all_goals
     clear HA HT hxy
     go_wp2_with fail
     refine wp_region_grew (by kernel_rfl) (by kernel_rfl) ?_
     repeat (go_big_quiet_step (fail))
     refine wpQuiet_nil ?_
     rintro _ ⟨⟨w2,ho2⟩,rfl⟩
     go_wp2_with fail
     go_roundw
     case rel=>exact⟨k+1,by omega,by go_num,ho.trans ho2,HN2⟩
     case measure=>simp[intOf];omega
  ·have e:k=n:=by omega
   subst e
   go_wp2_with fail
   go_ret
   exact⟨ho0.trans ho, -1,rfl,by rw[HK.out];rfl⟩
theorem Contains_any (w:World) (A:Option Addr) (n c:Nat) (f:Nat->Int) (hr:ReadsP w A n f) (hn:n<=9223372036854775807) (hf:∀k,f k=0\/f k=1\/f k=2):
 Grew Tryz.prog 68 #[.slice A n c,.agg #[.bool false,.bool false]] w (.bool (anyTo (fun v=>v==0) f n)):=by
 have ho0:=(Only.refl [] w).alloc (.cells #[.bool false,.bool false] 156)
 have b:=Blk.new w 156 #[.bool false,.bool false]
 have b0:=b.cell_ 0 rfl
 have b1:=b.cell_ 1 rfl
 have C:=Lib.hid (Index_any _ A n c f (hr.still ho0) hn hf)
 clear hr
 go_enter Tryz.func68,Tryz.ntmps68
 go_wp2_with fail
 refine C.out.mono ?_
 rintro e w1 ⟨ho,i,rfl,hi⟩
 go_wp2_with fail
 go_ret
 exact⟨rfl,ho0.trans ho⟩
end Go.Proofs.YtcidjimefnhacaaGreatDoor.V
