/- TopSchedules, a part of the proof: LA, LB, LC. -/
import Derived.Test.YtcidjimefnhacaaGreatDoorM07
set_option linter.unusedVariables false
set_option linter.unusedSimpArgs false
namespace Go.Proofs.YtcidjimefnhacaaGreatDoor
open Go.RowKit
def Sp.z:Sp:=⟨0,0,0,0,0,[]⟩
structure En where
 p:Nat
 q:Nat
 cap:Nat
 s:Sp
def En.z:En:=⟨0,0,0,Sp.z⟩
def eAt (L:List En) (j:Nat):En:=L.getD j En.z
def sAt (M:List Sp) (j:Nat):Sp:=M.getD j Sp.z
abbrev spans (L:List En):List Sp:=L.map En.s
theorem sAt_spans (L:List En) (j:Nat):sAt (spans L) j=(eAt L j).s:=by
 simp only[sAt,spans,eAt,List.getD_eq_getElem?_getD,List.getElem?_map]
 cases L[j]? <;>rfl
theorem spans_len (L:List En):(spans L).length=L.length:=List.length_map ..
theorem eAt_mem {L:List En} {j:Nat} (h:j<L.length):eAt L j∈L:=by
 rw[eAt,List.getD_eq_getElem?_getD,List.getElem?_eq_getElem h]
 exact List.getElem_mem h
theorem eAt_set {L:List En} {j:Nat} (e:En) (h:j<L.length) (i:Nat):eAt (L.set j e) i=if j=i then e else eAt L i:=by
 simp only[eAt,List.getD_eq_getElem?_getD,List.getElem?_set]
 by_cases h1:j=i
 ·subst h1;simp[h]
 ·simp[h1]
def entCells (L:List En):List Value:=L.flatMap fun e=>[.int .i64 e.s.many,.int .i64 e.s.start,.pointer (some ⟨e.p,0,none⟩)]
theorem entCells_len (L:List En):(entCells L).length=L.length*3:=by
 induction L with
 |nil=>rfl
 |cons x l ih=>
  have:entCells (x::l)=[.int .i64 x.s.many,.int .i64 x.s.start,.pointer (some ⟨x.p,0,none⟩)]++entCells l:=rfl
  rw[this,List.length_append,ih]
  simp
  omega
theorem entCells_at (L:List En) (j:Nat) (h:j<L.length):(entCells L)[j*3]? =some (.int .i64 (eAt L j).s.many)/\(entCells L)[j*3+1]? =some (.int .i64 (eAt L j).s.start)/\(entCells L)[j*3+2]? =some (.pointer (some ⟨(eAt L j).p,0,none⟩)):=by
 induction L generalizing j with
 |nil=>simp at h
 |cons x l ih=>
  have e:entCells (x::l)=.int .i64 x.s.many:: .int .i64 x.s.start:: .pointer (some ⟨x.p,0,none⟩)::entCells l:=rfl
  rw[e]
  cases j with
  |zero=>simp[eAt]
  |succ j=>
   have:=ih j (by simpa using h)
   rw[show(j+1)*3=j*3+1+1+1 by omega]
   simpa[eAt] using this
theorem entCells_append (l m:List En):entCells (l++m)=entCells l++entCells m:=by simp[entCells]
theorem entCells_set (L:List En) (j:Nat) (e:En) (h:j<L.length) (hp:e.p=(eAt L j).p) (hs:e.s.start=(eAt L j).s.start):entCells (L.set j e)=(entCells L).set (j*3) (.int .i64 e.s.many):=by
 induction L generalizing j with
 |nil=>simp at h
 |cons x l ih=>
  have e':entCells (x::l)=.int .i64 x.s.many:: .int .i64 x.s.start:: .pointer (some ⟨x.p,0,none⟩)::entCells l:=rfl
  rw[e']
  cases j with
  |zero=>
   simp[eAt] at hp hs
   simp[entCells,hp,hs]
  |succ j=>
   have:=ih j (by simpa using h) (by simpa[eAt] using hp) (by simpa[eAt] using hs)
   rw[show(j+1)*3=j*3+1+1+1 by omega]
   simp only[List.set_cons_succ]
   rw[<-this]
   simp[entCells]
structure Apart (a b:En):Prop where
 ord:a.s.start+a.s.pages<=b.s.start
 pp:a.p≠b.p
 pq:a.p≠b.q
 qp:a.q≠b.p
 qq:a.q≠b.q
structure Cl where
 size:Int
 pages:Int
 batch:Int
def Cl.ok (c:Cl):Prop:=oneP c.size c.pages c.batch
def Sp.of (s:Sp) (c:Cl):Prop:=s.size=c.size/\s.pages=c.pages/\s.batch=c.batch
structure ListAt (w:World) (P:Nat) (A:Value) (c:Cl) (L:List En):Prop where
 blk:Blk w P 180 #[.int .i64 c.size,.int .i64 c.pages,.int .i64 c.batch,A]
 one:c.ok
 row:w.ownsRow 0 257 3 A L.length (entCells L)
 sp:∀e∈L,SpanAt w e.p e.q e.cap e.s/\e.s.of c
 ne:∀e∈L,e.p≠P/\e.q≠P/\A.ownBlock≠some e.p/\A.ownBlock≠some e.q
 nA:A.ownBlock≠some P
 ap:L.Pairwise Apart
structure InBl (P:Nat) (A:Value) (L:List En) (bl:List Nat):Prop where
 p:P∈bl
 a:∀k,A.ownBlock=some k->k∈bl
 e:∀e∈L,e.p∈bl/\e.q∈bl
structure ListSt (w:World) (P:Nat) (bl:List Nat) (c:Cl) (M:List Sp):Prop where
 ex:∃A L,ListAt w P A c L/\spans L=M/\InBl P A L bl
 lt:∀b∈bl,b<w.heap.size
theorem ListAt.only {w w':World} {P:Nat} {A:Value} {c:Cl} {L:List En} {bl l:List Nat} (h:ListAt w P A c L) (hb:InBl P A L bl) (ho:Only l w w') (hl:∀b∈bl,b∉l):ListAt w' P A c L:=by
 refine⟨h.blk.only ho (hl _ hb.p),h.one,own_only h.row ho (fun k hk=>hl _ (hb.a k hk)),fun e he=>?_,h.ne,h.nA,h.ap⟩
 obtain⟨h1,h2⟩:=h.sp e he
 exact⟨h1.only ho (hl _ (hb.e e he).1) (hl _ (hb.e e he).2),h2⟩
theorem ListAt.still {w w':World} {P:Nat} {A:Value} {c:Cl} {L:List En} (h:ListAt w P A c L) (ho:Only [] w w'):ListAt w' P A c L:=by
 refine⟨h.blk.only ho (by simp),h.one,own_only h.row ho (by simp),fun e he=>?_,h.ne,h.nA,h.ap⟩
 obtain⟨h1,h2⟩:=h.sp e he
 exact⟨h1.only ho (by simp) (by simp),h2⟩
theorem ListSt.only {w w':World} {P:Nat} {bl l:List Nat} {c:Cl} {M:List Sp} (h:ListSt w P bl c M) (ho:Only l w w') (hl:∀b∈bl,b∉l):ListSt w' P bl c M:=by
 obtain⟨⟨A,L,h1,h2,h3⟩,h4⟩:=h
 exact⟨⟨A,L,h1.only h3 ho hl,h2,h3⟩,fun b hb=>Nat.lt_of_lt_of_le (h4 b hb) ho.size⟩
theorem ListSt.still {w w':World} {P:Nat} {bl:List Nat} {c:Cl} {M:List Sp} (h:ListSt w P bl c M) (ho:Only [] w w'):ListSt w' P bl c M:=h.only ho (by simp)
def LTurn (w:World) (P:Nat) (bl:List Nat) (w':World) (c:Cl) (M:List Sp):Prop:=Only bl w w'/\∃bl',ListSt w' P bl' c M/\∀b∈bl',b∈bl\/w.heap.size<=b
theorem LTurn.same {w w':World} {P:Nat} {bl:List Nat} {c:Cl} {M:List Sp} (h:ListSt w P bl c M) (ho:Only [] w w'):LTurn w P bl w' c M:=⟨ho.of_nil,bl,h.still ho,fun b hb=>.inl hb⟩
theorem LTurn.step {w w1 w2:World} {P:Nat} {bl bl1:List Nat} {c:Cl} {M:List Sp} (ho:Only bl w w1) (hl:∀b∈bl1,b∈bl\/w.heap.size<=b) (h:LTurn w1 P bl1 w2 c M):LTurn w P bl w2 c M:=by
 obtain⟨h1,l2,h2,h3⟩:=h
 refine⟨ho.then_ h1 hl,l2,h2,fun b hb=>?_⟩
 rcases h3 b hb with h4|h4
 ·exact hl b h4
 ·exact .inr (Nat.le_trans ho.size h4)
theorem LTurn.first {w w1 w2:World} {P:Nat} {bl:List Nat} {c:Cl} {M:List Sp} (ho:Only [] w w1) (h:LTurn w1 P bl w2 c M):LTurn w P bl w2 c M:=LTurn.step ho.of_nil (fun b hb=>.inl hb) h
theorem LTurn.last {w w1 w2:World} {P:Nat} {bl:List Nat} {c:Cl} {M:List Sp} (h:LTurn w P bl w1 c M) (ho:Only [] w1 w2):LTurn w P bl w2 c M:=by
 obtain⟨h1,l2,h2,h3⟩:=h
 exact⟨h1.trans ho.of_nil,l2,h2.still ho,h3⟩
theorem LTurn.trans {w w1 w2:World} {P:Nat} {bl bl1:List Nat} {c:Cl} {M M2:List Sp} (ho:Only bl w w1) (hl:∀b∈bl1,b∈bl\/w.heap.size<=b) (h:LTurn w1 P bl1 w2 c M2):LTurn w P bl w2 c M2:=LTurn.step ho hl h
theorem LTurn.new {w w1 w2:World} {P:Nat} {bl:List Nat} {c:Cl} {M:List Sp} (ho:Only [] w w1) (hl:∀b∈bl,w.heap.size<=b) (h:LTurn w1 P bl w2 c M):Only [] w w2/\∃bl',ListSt w2 P bl' c M/\∀b∈bl',w.heap.size<=b:=by
 obtain⟨h1,l2,h2,h3⟩:=h
 refine⟨ho.then_ h1 (fun b hb=>.inr (hl b hb)),l2,h2,fun b hb=>?_⟩
 rcases h3 b hb with h4|h4
 ·exact hl b h4
 ·exact Nat.le_trans ho.size h4
namespace ListAt
variable {w w':World} {P:Nat} {A:Value} {c:Cl} {L:List En}
theorem slice (h:ListAt w P A c L):∃ad cp,A=.slice ad L.length cp:=by
 obtain⟨ad,cp,h1,_⟩:=own_slice h.row
 exact⟨ad,cp,h1⟩
theorem form (h:ListAt w P A c L) (h0:0<L.length):∃g cp,A=.slice (some ⟨g,0,none⟩) L.length cp:=by
 obtain⟨g,cp,h1,_⟩:=own_form h.row h0
 exact⟨g,cp,h1⟩
theorem get (h:ListAt w P A c L) {j:Nat} (hj:j<L.length):SpanAt w (eAt L j).p (eAt L j).q (eAt L j).cap (eAt L j).s/\(eAt L j).s.of c:=h.sp _ (eAt_mem hj)
end ListAt
theorem own_ents {w:World} {base n g cp:Nat} {e:TypeId} {L:List En} (h:w.ownsRow base e 3 (.slice (some ⟨g,0,none⟩) n cp) n (entCells L)) (hn:n=L.length) {j:Nat} (hj:j<n):
 w.cell? ⟨g,j*3,none⟩=some (.int .i64 (eAt L j).s.many)/\w.cell? ⟨g,j*3+1,none⟩=some (.int .i64 (eAt L j).s.start)/\w.cell? ⟨g,j*3+2,none⟩=some (.pointer (some ⟨(eAt L j).p,0,none⟩))/\(∀k,w.frozen? ⟨g,k,none⟩=false):=by
 rcases h.2 with ⟨h2,_⟩|⟨g',cap,cur,hv,hb,hg,h3,h4,h5,h6⟩
 ·cases h2
 ·injection hv with e1 _ e3
  injection e1 with e1
  injection e1 with e1 _ _
  subst e1 e3
  have hB:Blk w g e cur:=hg
  have hat:∀i u,i<n*3->(entCells L)[i]? =some u->w.cell? ⟨g,i,none⟩=some u:=fun i u hi hu=>by
   rw[<-h6,List.getElem?_take,if_pos hi,Array.getElem?_toList] at hu
   exact hB.cell_ i hu
  obtain⟨a1,a2,a3⟩:=entCells_at L j (by omega)
  exact⟨hat _ _ (by omega) a1,hat _ _ (by omega) a2,hat _ _ (by omega) a3,fun k=>hB.frozen k⟩
theorem ListAt.start_ge {w:World} {P:Nat} {A:Value} {c:Cl} {L:List En} (h:ListAt w P A c L) (j:Nat):j<L.length->(j:Int)<=(eAt L j).s.start:=by
 induction j with
 |zero=>intro hj;exact(h.get hj).1.good.b1
 |succ j ih=>
  intro hj
  have h1:=ih (by omega)
  have h2:=(List.pairwise_iff_getElem.1 h.ap) j (j+1) (by omega) hj (by omega)
  have h3:=(h.get (show j<L.length by omega)).1.good.p1
  have h4:=h2.ord
  have e1:L[j]=eAt L j:=by rw[eAt,List.getD_eq_getElem?_getD,List.getElem?_eq_getElem (by omega)];rfl
  have e2:L[j+1]=eAt L (j+1):=by rw[eAt,List.getD_eq_getElem?_getD,List.getElem?_eq_getElem hj];rfl
  rw[e1,e2] at h4
  omega
theorem ListAt.len {w:World} {P:Nat} {A:Value} {c:Cl} {L:List En} (h:ListAt w P A c L):L.length<=1024:=by
 rcases Nat.eq_zero_or_pos L.length with h0|h0
 ·omega
 ·have h1:=h.start_ge (L.length-1) (by omega)
  have h2:=(h.get (show L.length-1<L.length by omega)).1.good.b2
  have h3:=(h.get (show L.length-1<L.length by omega)).1.good.p1
  omega
theorem ListAt.apart {w:World} {P:Nat} {A:Value} {c:Cl} {L:List En} (h:ListAt w P A c L) {i j:Nat} (hi:i<j) (hj:j<L.length):Apart (eAt L i) (eAt L j):=by
 have h2:=(List.pairwise_iff_getElem.1 h.ap) i j (by omega) hj hi
 have e1:L[i]=eAt L i:=by rw[eAt,List.getD_eq_getElem?_getD,List.getElem?_eq_getElem (by omega)];rfl
 have e2:L[j]=eAt L j:=by rw[eAt,List.getD_eq_getElem?_getD,List.getElem?_eq_getElem hj];rfl
 rwa[e1,e2] at h2
end Go.Proofs.YtcidjimefnhacaaGreatDoor
namespace Go.Proofs.YtcidjimefnhacaaGreatDoor
open Go.RowKit
theorem Cl.ok.s1 {c:Cl} (h:c.ok):8<=c.size/\c.size<=512/\1<=c.pages/\c.pages<=4:=⟨h.1,h.2.1,h.2.2.2.1,h.2.2.2.2.1⟩
theorem lmade_at {w:World} {P:Nat} {A:Value} {c:Cl} {L:List En} (h:ListAt w P A c L):Still Tryz.prog 130 #[.pointer (some ⟨P,0,none⟩)] w (.bool true):=by
 have z0:=h.blk.cell_ 0 rfl
 have d1:decide (0<c.size)=true:=decide_eq_true (by have:=h.one.s1;omega)
 clear h
 go_enter Tryz.func130,Tryz.ntmps130
 go_wp2_with fail
 go_ret
 exact⟨rfl,rfl⟩
def ofI (M:List Sp) (a:Int):Option Nat:=M.findIdx? (fun s=>(s.idx a).2==0)
theorem ofI_some {M:List Sp} {a:Int} {k:Nat} (hk:k<M.length) (h:((sAt M k).idx a).2=0) (hn:∀j,j<k->((sAt M j).idx a).2≠0):ofI M a=some k:=by
 rw[ofI,List.findIdx?_eq_some_iff_getElem]
 refine⟨hk,?_,fun j hj=>?_⟩
 ·simpa[sAt,List.getD_eq_getElem?_getD,List.getElem?_eq_getElem hk] using h
 ·have:=hn j hj
  simpa[sAt,List.getD_eq_getElem?_getD,List.getElem?_eq_getElem (show j<M.length by omega)] using this
theorem ofI_none {M:List Sp} {a:Int} (hn:∀j,j<M.length->((sAt M j).idx a).2≠0):ofI M a=none:=by
 rw[ofI,List.findIdx?_eq_none_iff]
 intro x hx
 obtain⟨j,hj,rfl⟩:=List.getElem_of_mem hx
 have:=hn j hj
 simpa[sAt,List.getD_eq_getElem?_getD,List.getElem?_eq_getElem hj] using this
theorem ofI_cases (M:List Sp) (a:Int):(ofI M a=none/\∀j,j<M.length->((sAt M j).idx a).2≠0)\/∃k,ofI M a=some k/\k<M.length/\((sAt M k).idx a).2=0/\∀j,j<k->((sAt M j).idx a).2≠0:=by
 cases h:ofI M a with
 |none=>
  refine .inl ⟨rfl,fun j hj hx=>?_⟩
  rw[ofI,List.findIdx?_eq_none_iff] at h
  have:=h M[j] (List.getElem_mem hj)
  simp[sAt,List.getD_eq_getElem?_getD,List.getElem?_eq_getElem hj] at hx
  simp[hx] at this
 |some k=>
  rw[ofI,List.findIdx?_eq_some_iff_getElem] at h
  obtain⟨h1,h2,h3⟩:=h
  refine .inr ⟨k,rfl,h1,?_,fun j hj hx=>?_⟩
  ·simpa[sAt,List.getD_eq_getElem?_getD,List.getElem?_eq_getElem h1] using h2
  ·have:=h3 j hj
   simp[sAt,List.getD_eq_getElem?_getD,List.getElem?_eq_getElem (show j<M.length by omega)] at hx
   simp[hx] at this
set_option maxHeartbeats 2000000 in
theorem of_at {w:World} {P:Nat} {A:Value} {c:Cl} {L:List En} (h:ListAt w P A c L) (a:Int) (ha:I64 a):
 Calls Tryz.prog 167 #[.pointer (some ⟨P,0,none⟩),.int .i64 a] w fun e w'=>Only [] w w'/\
  ((∃j g,ofI (spans L) a=some j/\j<L.length/\A.ownBlock=some g/\e=.returned (.pointer (some ⟨g,j*3,none⟩)))\/(ofI (spans L) a=none/\e=.returned (.pointer none))):=by
 obtain⟨ad,cp,rfl⟩:=h.slice
 have z3:=h.blk.cell_ 3 rfl
 have HA:=Lib.hid h
 have hn:=h.len
 obtain⟨N,hN⟩:∃N,N=L.length:=⟨_,rfl⟩
 rw[<-hN] at z3 hn
 have HN:=Lib.hid hN
 clear h hN
 go_enter Tryz.func167,Tryz.ntmps167
 go_wp2_with fail
 go_loopw[13] (fun t wr=>∃k:Nat,k<=N/\t=.int .i64 k/\Only [] w wr/\∀j,j<k->((eAt L j).s.idx a).2≠0) (fun t _=>N-(intOf t).toNat)
 case atStart=>exact⟨0,Nat.zero_le _,rfl,Only.refl _ _,fun j hj=>absurd hj (by omega)⟩
 case round=>
  obtain⟨k,hk,rfl,ho,hF⟩:=hrel
  have hr:=HA.out.still ho
  by_cases hlt:k<N
  ·have d1:decide ((k:Int)<N)=true:=decide_eq_true (by omega)
   obtain⟨g,cp',e1⟩:=hr.form (by rw[<-HN.out];omega)
   injection e1 with e1 _ e3
   subst e1 e3
   have y3:=hr.blk.cell_ 3 rfl
   obtain⟨q0,q1,q2,qf⟩:=own_ents hr.row rfl (j:=k) (by rw[<-HN.out];exact hlt)
   rw[<-HN.out] at y3
   have CI:=Lib.hid (Index_at (hr.get (by rw[<-HN.out];exact hlt)).1 a ha.1 ha.2)
   have HF:=Lib.hid hF
   have HX:Hid (((eAt L k).s.idx a).2=((eAt L k).s.idx a).2):=rfl
   generalize h1:((eAt L k).s.idx a).1=i1 at *
   generalize h2:((eAt L k).s.idx a).2=i2 at *
   have H2:=Lib.hid h2
   clear h1 h2 HX hF hr
   by_cases h0:i2=0
   ·have d2:(i2==0)=true:=by simp[h0]
    have HZ:=Lib.hid h0
    clear h0
    go_wp2_with (first|(go_at_call 168;with_reducible refine Quiet.use CI.out (fun nq=>?_)))
    go_ret
    exact⟨ho.drewN _,.inl ⟨k,g,ofI_some (by rw[spans_len,<-HN.out];exact hlt) (by rw[sAt_spans,H2.out,HZ.out]) (fun j hj=>by rw[sAt_spans];exact HF.out j hj),by rw[<-HN.out];exact hlt,rfl,rfl⟩⟩
   ·have d2:(i2==0)=false:=by simp[h0]
    have HZ:=Lib.hid h0
    clear h0
    go_wp2_with (first|(go_at_call 168;with_reducible refine Quiet.use CI.out (fun nq=>?_)))
    go_roundw
    case rel=>exact⟨k+1,by omega,by go_num,ho.drewN _,fun j hj=>by
     rcases Nat.lt_or_ge j k with h1|h1
     ·exact HF.out j h1
     ·rw[show j=k by omega,H2.out];exact HZ.out⟩
    case measure=>simp[intOf];omega
  ·have d1:decide ((k:Int)<N)=false:=decide_eq_false (by omega)
   have HF:=Lib.hid hF
   clear hF hr
   go_wp2_with fail
   go_ret
   exact⟨ho,.inr ⟨ofI_none (fun j hj=>by rw[sAt_spans];exact HF.out j (by rw[spans_len,<-HN.out] at hj;omega)),rfl⟩⟩
def isTk (M:List Sp) (a:Int):Bool×Int:=match ofI M a with|none=>(false,8)|some j=>(sAt M j).tkn a
set_option maxHeartbeats 2000000 in
theorem lIsTaken_at {w:World} {P:Nat} {A:Value} {c:Cl} {L:List En} (h:ListAt w P A c L) (a:Int) (ha:I64 a):
 Grew Tryz.prog 145 #[.pointer (some ⟨P,0,none⟩),.int .i64 a] w (.tuple #[.bool (isTk (spans L) a).1,.int .i64 (isTk (spans L) a).2]):=by
 have HA:=Lib.hid h
 have CM:=Lib.hid (lmade_at h)
 have CO:=Lib.hid (of_at h a ha)
 clear h
 go_enter Tryz.func145,Tryz.ntmps145
 go_wp2_with (first|(go_at_call 130;with_reducible refine Still.use CM.out ?_))
 refine CO.out.mono ?_
 rintro e w1 ⟨ho1,⟨j,g,h1,h2,h3,rfl⟩|⟨h1,rfl⟩⟩
 ·have hr:=HA.out.still ho1
  obtain⟨g',cp',rfl⟩:=hr.form (by omega)
  obtain rfl:g'=g:=by injection h3
  obtain⟨q0,q1,q2,qf⟩:=own_ents hr.row rfl h2
  have CT:=Lib.hid (IsTaken_at (hr.get h2).1 a ha.1 ha.2)
  have E:=Lib.hid (show isTk (spans L) a=(eAt L j).s.tkn a by unfold isTk;rw[h1];exact congrArg (fun s=>Sp.tkn s a) (sAt_spans L j))
  generalize (eAt L j).s.tkn a=x at *
  obtain⟨x1,x2⟩:=x
  clear hr HA h1
  go_wp2_with (first|(go_at_call 171;with_reducible refine Quiet.use CT.out (fun nq=>?_)))
  go_ret2
  exact⟨by rw[E.out];rfl,ho1.drewN _⟩
 ·have E:=Lib.hid (show isTk (spans L) a=(false,8) by unfold isTk;rw[h1])
  clear HA h1
  go_wp2_with fail
  go_ret2
  exact⟨by rw[E.out];rfl,ho1⟩
def findM (M:List Sp) (a:Int):Int×Int:=match ofI M a with|none=>(0,8)|some j=>((sAt M j).start *256+((sAt M j).idx a).1 *(sAt M j).size,0)
def manyTo (M:List Sp):Nat->Int
 |0=>0
 |k+1=>manyTo M k+(sAt M k).many
def roomTo (M:List Sp):Nat->Int
 |0=>0
 |k+1=>roomTo M k+((sAt M k).st.length -(sAt M k).many)
abbrev manyOf (M:List Sp):Int:=manyTo M M.length
abbrev roomOf (M:List Sp):Int:=roomTo M M.length
theorem lNew_any (w:World) (c:Cl):Calls Tryz.prog 65 #[.agg #[.int .i64 c.size,.int .i64 c.pages,.int .i64 c.batch]] w fun e w'=>Only [] w w'/\
 (c.ok->∃P bl,e=.returned (.tuple #[.pointer (some ⟨P,0,none⟩),.int .i64 0])/\ListSt w' P bl c []/\∀b∈bl,w.heap.size<=b)/\
 (¬c.ok->e=.returned (.tuple #[.pointer none,.int .i64 1])):=by
 obtain⟨x,y,z⟩:=c
 dsimp only
 have C:=Lib.hid (fun W=>Objects_any W x y z)
 have ho0:=(Only.refl [] w).alloc (.cells #[.int .i64 x,.int .i64 y,.int .i64 z] 101)
 have bX:=Blk.new w 101 #[.int .i64 x,.int .i64 y,.int .i64 z]
 have HB:=Lib.hid (fun W (ho:Only [] (w.alloc (.cells #[.int .i64 x,.int .i64 y,.int .i64 z] 101)) W)=>bX.only ho (by simp))
 by_cases hok:oneP x y z
 ·have H:=Lib.hid hok
  simp only[if_pos hok] at C
  generalize y*256/x=ob at C
  clear hok bX
  go_enter Tryz.func65,Tryz.ntmps65
  go_wp2_with (first|(go_at_call 75;with_reducible refine Grew.use (C.out _) (fun w1 ho1=>?_);have b1:=HB.out _ ho1;have c0:=b1.cell_ 0 rfl;have c1:=b1.cell_ 1 rfl;have c2:=b1.cell_ 2 rfl;clear b1))
  go_ret2
  have h1:=Blk.new w1 180 #[.int .i64 x,.int .i64 y,.int .i64 z,.slice none 0 0]
  refine⟨(ho0.trans ho1).alloc _,fun _=>⟨w1.heap.size,[w1.heap.size],rfl,⟨⟨.slice none 0 0,[],⟨h1,H.out,World.ownsRow_nil _ _ _ _,by simp,by simp,by simp[Value.ownBlock],List.Pairwise.nil⟩,rfl,⟨by simp,by simp[Value.ownBlock],by simp⟩⟩,fun b hb=>?_⟩,fun b hb=>?_⟩,fun h=>absurd H.out h⟩
  ·simp at hb;subst hb;exact h1.lt
  ·simp at hb;subst hb;exact(ho0.trans ho1).size
 ·have H:=Lib.hid hok
  simp only[if_neg hok] at C
  clear hok bX
  go_enter Tryz.func65,Tryz.ntmps65
  go_wp2_with (first|(go_at_call 75;with_reducible refine Grew.use (C.out _) (fun w1 ho1=>?_)))
  go_ret2
  exact⟨ho0.trans ho1,fun h=>absurd h H.out,fun _=>rfl⟩
def spansTo (M:List Sp):Nat->List (Int×Int)
 |0=>[]
 |k+1=>spansTo M k++[((sAt M k).start,(sAt M k).pages)]
theorem spansTo_len (M:List Sp) (k:Nat):(spansTo M k).length=k:=by
 induction k with
 |zero=>rfl
 |succ k ih=>rw[spansTo,List.length_append,ih];rfl
abbrev spansOf (M:List Sp):List (Int×Int):=spansTo M M.length
end Go.Proofs.YtcidjimefnhacaaGreatDoor
