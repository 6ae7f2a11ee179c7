/- TopSchedules, a part of the proof: LD, LE. -/
import Derived.Test.YtcidjimefnhacaaGreatDoorM08
import Derived.Test.YtcidjimefnhacaaGreatDoorM01
set_option linter.unusedVariables false
set_option linter.unusedSimpArgs false
namespace Go.Proofs.YtcidjimefnhacaaGreatDoor
open Go.RowKit
def bestTo (M:List Sp):Nat->Option Nat
 |0=>none
 |k+1=>match bestTo M k with
  |none=>if(sAt M k).many<(sAt M k).st.length then some k else none
  |some b=>if(sAt M k).many<(sAt M k).st.length/\(sAt M b).many<(sAt M k).many then some k else some b
theorem bestTo_lt (M:List Sp) (k b:Nat) (h:bestTo M k=some b):b<k/\(sAt M b).many<(sAt M b).st.length:=by
 induction k generalizing b with
 |zero=>cases h
 |succ k ih=>
  rw[bestTo] at h
  cases h1:bestTo M k with
  |none=>
   rw[h1] at h
   simp only at h
   split at h
   ·rename_i h2;injection h with h;subst h;exact⟨by omega,h2⟩
   ·cases h
  |some b'=>
   rw[h1] at h
   simp only at h
   split at h
   ·rename_i h2;injection h with h;subst h;exact⟨by omega,h2.1⟩
   ·injection h with h
    subst h
    have:=ih _ h1
    exact⟨by omega,this.2⟩
theorem bestTo_first {M:List Sp} {k:Nat} (h:bestTo M k=none) (h2:(sAt M k).many<(sAt M k).st.length):bestTo M (k+1)=some k:=by rw[bestTo,h];exact if_pos h2
theorem bestTo_none {M:List Sp} {k:Nat} (h:bestTo M k=none) (h2:¬(sAt M k).many<(sAt M k).st.length):bestTo M (k+1)=none:=by rw[bestTo,h];exact if_neg h2
theorem bestTo_more {M:List Sp} {k b:Nat} (h:bestTo M k=some b) (h2:(sAt M k).many<(sAt M k).st.length) (h3:(sAt M b).many<(sAt M k).many):bestTo M (k+1)=some k:=by rw[bestTo,h];exact if_pos ⟨h2,h3⟩
theorem bestTo_keep {M:List Sp} {k b:Nat} (h:bestTo M k=some b) (h2:¬((sAt M k).many<(sAt M k).st.length/\(sAt M b).many<(sAt M k).many)):bestTo M (k+1)=some b:=by rw[bestTo,h];exact if_neg h2
def one7 (M:List Sp):(Int×Bool)×List Sp:=match bestTo M M.length with
 |none=>((0,false),M)
 |some b=>(((sAt M b).take.1.1,true),M.set b (sAt M b).take.2)
theorem sum_full (l:List Int) (h:∀i,i<l.length->l.getD i 0=1):l.sum=l.length:=by
 induction l with
 |nil=>rfl
 |cons x l ih=>
  have h0:=h 0 (by simp)
  have:=ih (fun i hi=>by simpa using h (i+1) (by simpa using hi))
  simp at h0 ⊢
  omega
theorem Sp.take_room {s:Sp} (hg:s.Good) (h:s.many<s.st.length):∃k:Nat,idxOf s.st 0=k/\k<s.st.length/\s.st.getD k 0=0/\s.take=((s.start*256+k*s.size,0),s.put k 1):=by
 rcases idxOf_cases s.st 0 with ⟨h1,h2⟩|⟨k,h1,h2,h3,_⟩
 ·exfalso
  have:=sum_full s.st (fun i hi=>by
   rcases hg.bits i hi with h3|h3
   ·exact absurd h3 (h2 i hi)
   ·exact h3)
  rw[<-hg.cnt] at this
  omega
 ·refine⟨k,h1,h2,h3,?_⟩
  unfold Sp.take Sp.at_
  rw[h1,if_neg (by omega),Int.toNat_natCast]
theorem before_any (w:World) (t1 s1 t2 s2:Int) (h:s2<=s1):Grew Tryz.prog 153 #[.agg #[.int .i64 t1,.int .i64 s1],.agg #[.int .i64 t2,.int .i64 s2]] w (.bool (decide (t2<t1))):=by
 have ho:=((Only.refl [] w).alloc (.cells #[.int .i64 t1,.int .i64 s1] 255)).alloc (.cells #[.int .i64 t2,.int .i64 s2] 255)
 have d0:decide (s1<s2)=false:=decide_eq_false (by omega)
 by_cases h1:t2<t1
 ·have d1:decide (t2<t1)=true:=decide_eq_true h1
  clear h h1
  go_enter Tryz.func153,Tryz.ntmps153
  go_wp2_with fail
  go_ret
  exact⟨by rw[d1];rfl,ho⟩
 ·have d1:decide (t2<t1)=false:=decide_eq_false h1
  by_cases h2:t1=t2
  ·have d2:(t1==t2)=true:=beq_iff_eq.2 h2
   clear h h1 h2
   go_enter Tryz.func153,Tryz.ntmps153
   go_wp2_with fail
   go_ret
   exact⟨by rw[d1];rfl,ho⟩
  ·have d2:(t1==t2)=false:=beq_eq_false_iff_ne.2 h2
   clear h h1 h2
   go_enter Tryz.func153,Tryz.ntmps153
   go_wp2_with fail
   go_ret
   exact⟨by rw[d1];rfl,ho⟩
theorem mem_eAt {L:List En} {e:En} (h:e∈L):∃i,i<L.length/\e=eAt L i:=by
 obtain⟨i,hi,rfl⟩:=List.getElem_of_mem h
 exact⟨i,hi,by rw[eAt,List.getD_eq_getElem?_getD,List.getElem?_eq_getElem hi];rfl⟩
theorem pw_eAt {R:En->En->Prop} {L:List En}:L.Pairwise R↔∀i j,i<j->j<L.length->R (eAt L i) (eAt L j):=by
 rw[List.pairwise_iff_getElem]
 constructor
 ·intro h i j hij hj
  have:=h i j (by omega) hj hij
  rwa[show L[i]=eAt L i by rw[eAt,List.getD_eq_getElem?_getD,List.getElem?_eq_getElem (by omega)];rfl,show L[j]=eAt L j by rw[eAt,List.getD_eq_getElem?_getD,List.getElem?_eq_getElem hj];rfl] at this
 ·intro h i j hi hj hij
  have:=h i j hij hj
  rwa[show L[i]=eAt L i by rw[eAt,List.getD_eq_getElem?_getD,List.getElem?_eq_getElem (by omega)];rfl,show L[j]=eAt L j by rw[eAt,List.getD_eq_getElem?_getD,List.getElem?_eq_getElem hj];rfl]
theorem ListAt.ne2 {w:World} {P:Nat} {A:Value} {c:Cl} {L:List En} (h:ListAt w P A c L) {i j:Nat} (hi:i<L.length) (hj:j<L.length) (hij:i≠j):(eAt L i).p∉ [(eAt L j).p,(eAt L j).q]/\(eAt L i).q∉ [(eAt L j).p,(eAt L j).q]:=by
 rcases Nat.lt_or_ge i j with h1|h1
 ·have:=h.apart h1 hj
  simp
  exact⟨⟨this.pp,this.pq⟩,this.qp,this.qq⟩
 ·have:=h.apart (show j<i by omega) hi
  simp
  exact⟨⟨fun e=>this.pp e.symm,fun e=>this.qp e.symm⟩,fun e=>this.pq e.symm,fun e=>this.qq e.symm⟩
theorem ListAt.step {w w1:World} {P g n cp:Nat} {c:Cl} {L:List En} (h:ListAt w P (.slice (some ⟨g,0,none⟩) n cp) c L) (hn:n=L.length) {b:Nat} (hb:b<L.length) {s':Sp} (h1:SpanAt w1 (eAt L b).p (eAt L b).q (eAt L b).cap s') (ho:Only [(eAt L b).p,(eAt L b).q] w w1)
 (e1:s'.start=(eAt L b).s.start) (e2:s'.size=(eAt L b).s.size) (e3:s'.pages=(eAt L b).s.pages) (e4:s'.batch=(eAt L b).s.batch):
 ListAt (w1.setCell ⟨g,b*3,none⟩ (.int .i64 s'.many)) P (.slice (some ⟨g,0,none⟩) n cp) c (L.set b {eAt L b with s:=s'}):=by
 subst hn
 have hB:=h.ne _ (eAt_mem hb)
 have hof:=(h.get hb).2
 have oS:Only [g] w1 (w1.setCell ⟨g,b*3,none⟩ (.int .i64 s'.many)):=(Only.refl [g] w1).setCell (.inl (by simp)) _
 have gP:g≠P:=fun e=>h.nA (by rw[e];rfl)
 have gp:∀i,i<L.length->(eAt L i).p≠g/\(eAt L i).q≠g:=fun i hi=>⟨fun e=>(h.ne _ (eAt_mem hi)).2.2.1 (by rw[e];rfl),fun e=>(h.ne _ (eAt_mem hi)).2.2.2 (by rw[e];rfl)⟩
 have hset:∀i,eAt (L.set b {eAt L b with s:=s'}) i=if b=i then {eAt L b with s:=s'} else eAt L i:=eAt_set _ hb
 refine⟨(h.blk.only ho (by simp;exact⟨Ne.symm hB.1,Ne.symm hB.2.1⟩)).only oS (by simpa using Ne.symm gP),h.one,?_,fun e he=>?_,fun e he=>?_,h.nA,?_⟩
 ·rw[List.length_set,entCells_set L b {eAt L b with s:=s'} hb rfl e1]
  exact own_set (own_only h.row ho (fun k hk=>by
   have:g=k:=by injection hk
   subst this
   have:=gp b hb
   simp
   exact⟨Ne.symm this.1,Ne.symm this.2⟩)) _ _
 ·obtain⟨i,hi,rfl⟩:=mem_eAt he
  rw[List.length_set] at hi
  have hg:=gp i hi
  rw[hset i]
  split
  ·rename_i hbi
   subst hbi
   exact⟨h1.only oS (by simpa using hg.1) (by simpa using hg.2),e2.trans hof.1,e3.trans hof.2.1,e4.trans hof.2.2⟩
  ·rename_i hbi
   have hd:=h.ne2 hi hb (Ne.symm hbi)
   exact⟨((h.get hi).1.only ho hd.1 hd.2).only oS (by simpa using hg.1) (by simpa using hg.2),(h.get hi).2⟩
 ·obtain⟨i,hi,rfl⟩:=mem_eAt he
  rw[List.length_set] at hi
  rw[hset i]
  split
  ·exact hB
  ·exact h.ne _ (eAt_mem hi)
 ·rw[pw_eAt]
  intro i j hij hj
  rw[List.length_set] at hj
  have:=h.apart hij hj
  rw[hset i,hset j]
  split
  ·rename_i hbi
   subst hbi
   rw[if_neg (by omega)]
   exact⟨by rw[e1,e3];exact this.ord,this.pp,this.pq,this.qp,this.qq⟩
  ·split
   ·rename_i hbj
    subst hbj
    exact⟨by rw[e1];exact this.ord,this.pp,this.pq,this.qp,this.qq⟩
   ·exact this
def bestPtr (g:Nat):Option Nat->Value
 |none=>.pointer none
 |some b=>.pointer (some ⟨g,b*3,none⟩)
theorem Sp.take_same (s:Sp):s.take.2.start=s.start/\s.take.2.size=s.size/\s.take.2.pages=s.pages/\s.take.2.batch=s.batch:=by
 unfold Sp.take
 split<;>exact⟨rfl,rfl,rfl,rfl⟩
theorem ListSt.set {w:World} {P:Nat} {A:Value} {bl:List Nat} {c:Cl} {L:List En} {b:Nat} {s':Sp} (hb:b<L.length) (h:ListAt w P A c (L.set b {eAt L b with s:=s'})) (hi:InBl P A L bl) (hl:∀x∈bl,x<w.heap.size):ListSt w P bl c ((spans L).set b s'):=by
 refine⟨⟨A,_,h,by rw[spans,spans,List.map_set],hi.p,hi.a,fun e he=>?_⟩,hl⟩
 obtain⟨i,hi',rfl⟩:=mem_eAt he
 rw[List.length_set] at hi'
 rw[eAt_set _ hb]
 split
 ·show(eAt L b).p∈bl/\(eAt L b).q∈bl
  exact hi.e _ (eAt_mem hb)
 ·exact hi.e _ (eAt_mem hi')
set_option maxRecDepth 100000 in
set_option maxHeartbeats 8000000 in
theorem lone_at {w:World} {P:Nat} {bl:List Nat} {c:Cl} {M:List Sp} (h:ListSt w P bl c M):
 Calls Tryz.prog 131 #[.pointer (some ⟨P,0,none⟩)] w fun e w'=>e=.returned (.tuple #[.int .i64 (one7 M).1.1,.bool (one7 M).1.2])/\Only bl w w'/\ListSt w' P bl c (one7 M).2:=by
 obtain⟨⟨A,L,hA,rfl,hI⟩,hlt0⟩:=h
 obtain⟨ad,cp,rfl⟩:=hA.slice
 have z3:=hA.blk.cell_ 3 rfl
 have HA:=Lib.hid hA
 have HI:=Lib.hid hI
 have HLT:=Lib.hid hlt0
 have hn:=hA.len
 obtain⟨N,hN⟩:∃N,N=L.length:=⟨_,rfl⟩
 have HNS:Hid ((spans L).length=N):=by rw[hN,<-spans_len];rfl
 rw[<-hN] at z3 hn
 have HN:=Lib.hid hN
 obtain⟨g,hg⟩:∃g,0<N->ad=some ⟨g,0,none⟩:=by
  rcases Nat.eq_zero_or_pos N with h0|h0
  ·exact⟨0,fun h=>absurd h (by omega)⟩
  ·obtain⟨g,cp',e1⟩:=hA.form (by omega)
   injection e1 with e1
   exact⟨g,fun _=>e1⟩
 have HG:=Lib.hid hg
 clear hA hI hlt0 hN hg
 go_enter Tryz.func131,Tryz.ntmps131
 go_wp2_with fail
 go_loopw[4,14] (fun b t wr=>∃k:Nat,k<=N/\t=.int .i64 k/\Only [] w wr/\b=bestPtr g (bestTo (spans L) k)) (fun _ t _=>N-(intOf t).toNat)
 case atStart=>exact⟨0,Nat.zero_le _,rfl,Only.refl _ _,rfl⟩
 case round=>
  obtain⟨k,hk,rfl,ho,rfl⟩:=hrel
  have hr:=HA.out.still ho
  have z3:=hr.blk.cell_ 3 rfl
  rw[<-HN.out] at z3
  by_cases hlt:k<N
  ·have d1:decide ((k:Int)<N)=true:=decide_eq_true (by omega)
   obtain rfl:=HG.out (by omega)
   obtain⟨q0,q1,q2,qf⟩:=own_ents hr.row rfl (j:=k) (by rw[<-HN.out];exact hlt)
   have C0:=cell_after q0
   have C1:=cell_after q1
   have C2:=cell_after q2
   have CO:=Lib.hid (fun u:After wr=>Objects_at ((hr.get (show k<L.length by rw[<-HN.out];exact hlt)).1.only u.ok (by simp) (by simp)))
   obtain⟨m1,m2⟩:=(hr.get (show k<L.length by rw[<-HN.out];exact hlt)).1.good.many
   have m3:=(hr.get (show k<L.length by rw[<-HN.out];exact hlt)).1.good.len
   have EN:=Lib.hid (fun (k':Nat) (e:k'=k+1)=>e)
   cases hb:bestTo (spans L) k with
   |none=>
    by_cases h1:(eAt L k).s.many<(eAt L k).s.st.length
    ·have HB:=Lib.hid (bestTo_first hb (by rw[sAt_spans];exact h1))
     have d2:decide ((eAt L k).s.many<((eAt L k).s.st.length:Int))=true:=decide_eq_true h1
     clear hb h1 qf
     generalize (eAt L k).s.many=mk at *
     generalize (eAt L k).s.st.length=lk at *
     clear hr q0 q1 q2
     unfold bestPtr
     go_wp2_with fail
     refine wp_region_grew (by kernel_rfl) (by kernel_rfl) ?_
     repeat (go_big_quiet_step (first|(go_at_call 152;exact Grew.g (Still.grew (CO.out _)))))
     refine wpQuiet_nil ?_
     rintro _ ⟨u,rfl⟩
     go_wp2_with fail
     go_roundw
     case rel=>exact⟨k+1,by omega,by go_num,ho.trans u.ok,by rw[HB.out]<;>rfl⟩
     case measure=>simp[intOf];try omega
    ·have HB:=Lib.hid (bestTo_none hb (by rw[sAt_spans];exact h1))
     have d2:decide ((eAt L k).s.many<((eAt L k).s.st.length:Int))=false:=decide_eq_false h1
     clear hb h1 qf
     generalize (eAt L k).s.many=mk at *
     generalize (eAt L k).s.st.length=lk at *
     clear hr q0 q1 q2
     unfold bestPtr
     go_wp2_with fail
     refine wp_region_grew (by kernel_rfl) (by kernel_rfl) ?_
     repeat (go_big_quiet_step (first|(go_at_call 152;exact Grew.g (Still.grew (CO.out _)))))
     refine wpQuiet_nil ?_
     rintro _ ⟨u,rfl⟩
     go_wp2_with fail
     go_roundw
     case rel=>exact⟨k+1,by omega,by go_num,ho.trans u.ok,by rw[HB.out]<;>rfl⟩
     case measure=>simp[intOf];try omega
   |some b=>
    have hbl:=bestTo_lt _ _ _ hb
    have hbk:b<k:=hbl.1
    obtain⟨r0,r1,r2,rf⟩:=own_ents hr.row rfl (j:=b) (by rw[<-HN.out];omega)
    have D0:=cell_after r0
    have D1:=cell_after r1
    have hap:=(hr.apart hbk (by rw[<-HN.out];exact hlt)).ord
    have hpg:=(hr.get (show b<L.length by rw[<-HN.out];omega)).1.good.p1
    have hse:(eAt L b).s.start<=(eAt L k).s.start:=by omega
    have CB:=Lib.hid (fun u:After wr=>before_any u.w' (eAt L k).s.many (eAt L k).s.start (eAt L b).s.many (eAt L b).s.start hse)
    clear hap hpg hse hbl
    by_cases h1:(eAt L k).s.many<(eAt L k).s.st.length
    ·have d2:decide ((eAt L k).s.many<((eAt L k).s.st.length:Int))=true:=decide_eq_true h1
     by_cases h2:(eAt L b).s.many<(eAt L k).s.many
     ·have HB:=Lib.hid (bestTo_more hb (by rw[sAt_spans];exact h1) (by rw[sAt_spans,sAt_spans];exact h2))
      rw[decide_eq_true h2] at CB
      clear hb h1 h2 qf rf
      generalize (eAt L k).s.many=mk at *
      generalize (eAt L k).s.st.length=lk at *
      generalize (eAt L k).s.start=sk at *
      generalize (eAt L b).s.many=mb at *
      generalize (eAt L b).s.start=sb at *
      clear hr q0 q1 q2 r0 r1 r2
      unfold bestPtr
      go_wp2_with fail
      refine wp_region_grew (by kernel_rfl) (by kernel_rfl) ?_
      repeat (go_big_quiet_step (first|(go_at_call 152;exact Grew.g (Still.grew (CO.out _)))|(go_at_call 153;exact Grew.g (CB.out _))))
      refine wpQuiet_nil ?_
      rintro _ ⟨u,rfl⟩
      go_wp2_with fail
      go_roundw
      case rel=>exact⟨k+1,by omega,by go_num,ho.trans u.ok,by rw[HB.out]<;>rfl⟩
      case measure=>simp[intOf];try omega
     ·have HB:=Lib.hid (bestTo_keep hb (by rw[sAt_spans,sAt_spans];exact fun h=>h2 h.2))
      rw[decide_eq_false h2] at CB
      clear hb h1 h2 qf rf
      generalize (eAt L k).s.many=mk at *
      generalize (eAt L k).s.st.length=lk at *
      generalize (eAt L k).s.start=sk at *
      generalize (eAt L b).s.many=mb at *
      generalize (eAt L b).s.start=sb at *
      clear hr q0 q1 q2 r0 r1 r2
      unfold bestPtr
      go_wp2_with fail
      refine wp_region_grew (by kernel_rfl) (by kernel_rfl) ?_
      repeat (go_big_quiet_step (first|(go_at_call 152;exact Grew.g (Still.grew (CO.out _)))|(go_at_call 153;exact Grew.g (CB.out _))))
      refine wpQuiet_nil ?_
      rintro _ ⟨u,rfl⟩
      go_wp2_with fail
      go_roundw
      case rel=>exact⟨k+1,by omega,by go_num,ho.trans u.ok,by rw[HB.out]<;>rfl⟩
      case measure=>simp[intOf];try omega
    ·have HB:=Lib.hid (bestTo_keep hb (by rw[sAt_spans];exact fun h=>h1 h.1))
     have d2:decide ((eAt L k).s.many<((eAt L k).s.st.length:Int))=false:=decide_eq_false h1
     clear hb h1 qf rf CB
     generalize (eAt L k).s.many=mk at *
     generalize (eAt L k).s.st.length=lk at *
     clear hr q0 q1 q2 r0 r1 r2 D0 D1
     unfold bestPtr
     go_wp2_with fail
     refine wp_region_grew (by kernel_rfl) (by kernel_rfl) ?_
     repeat (go_big_quiet_step (first|(go_at_call 152;exact Grew.g (Still.grew (CO.out _)))))
     refine wpQuiet_nil ?_
     rintro _ ⟨u,rfl⟩
     go_wp2_with fail
     go_roundw
     case rel=>exact⟨k+1,by omega,by go_num,ho.trans u.ok,by rw[HB.out]<;>rfl⟩
     case measure=>simp[intOf];try omega
  ·have e:k=N:=by omega
   subst e
   have d1:decide ((k:Int)<k)=false:=decide_eq_false (by omega)
   cases hb:bestTo (spans L) k with
   |none=>
    have E:Hid (one7 (spans L)=((0,false),spans L)):=by show _=_;rw[one7,HNS.out,hb]
    clear hb hr hlt
    unfold bestPtr
    go_wp2_with fail
    go_ret2
    exact⟨by rw[E.out];rfl,ho.of_nil,by rw[E.out];exact⟨⟨_,L,HA.out.still ho,rfl,HI.out⟩,fun b hb=>Nat.lt_of_lt_of_le (HLT.out b hb) ho.size⟩⟩
   |some b=>
    obtain⟨hbk,hroom⟩:=bestTo_lt _ _ _ hb
    rw[sAt_spans] at hroom
    have E:Hid (one7 (spans L)=(((eAt L b).s.take.1.1,true),(spans L).set b (eAt L b).s.take.2)):=by show _=_;rw[one7,HNS.out,hb];dsimp only;rw[sAt_spans]
    obtain rfl:=HG.out (by omega)
    have hbL:b<L.length:=by rw[<-HN.out];exact hbk
    obtain⟨r0,r1,r2,rf⟩:=own_ents hr.row rfl hbL
    have hsp:=(hr.get hbL).1
    obtain⟨kk,hi1,hi2,hi3,hi4⟩:=Sp.take_room hsp.good hroom
    have hmany:(eAt L b).s.take.2.many=(eAt L b).s.many+1:=by rw[hi4];show _+(1-_)=_;rw[hi3];omega
    have hsame:=Sp.take_same (eAt L b).s
    have HR:=Lib.hid hr
    have HBL:=Lib.hid hbL
    have CT:=Lib.hid (Take_at hsp)
    obtain⟨m1,m2⟩:=hsp.good.many
    have m3:=hsp.good.len
    have hneB:=hr.ne _ (eAt_mem hbL)
    have HS:=Lib.hid hsame
    have HMANY:=Lib.hid hmany
    have gne:g∉ [(eAt L b).p,(eAt L b).q]:=by
     simp
     exact⟨fun e=>hneB.2.2.1 (by rw[e];rfl),fun e=>hneB.2.2.2 (by rw[e];rfl)⟩
    clear hb hlt hr hi1 hi2 hi3 hi4 hsp hneB hsame hmany
    generalize (eAt L b).s.take.1.2=te at *
    generalize hta:(eAt L b).s.take.1.1=ta at *
    generalize (eAt L b).s.take.2=s2 at *
    unfold bestPtr
    go_wp2_with fail
    refine CT.out.mono ?_
    rintro e w2 ⟨rfl,hsp2,ho2⟩
    have y0:=(ho2.cell (World.block_lt_of_cell? wr _ r0) gne).trans r0
    have yf:=(ho2.frozen (World.block_lt_of_cell? wr _ r0) gne).trans (rf (b*3))
    have hst:=HR.out.step rfl HBL.out hsp2 ho2 HS.out.1 HS.out.2.1 HS.out.2.2.1 HS.out.2.2.2
    rw[HMANY.out] at hst
    have HST:=Lib.hid hst
    have GB:=Lib.hid (HI.out.a g rfl)
    have hsz:=(ho.size)
    have hsz2:=ho2.size
    clear hst hsp2
    generalize (eAt L b).s.many=mb at *
    go_wp2_with fail
    go_ret2
    have hin:=HI.out.e _ (eAt_mem HBL.out)
    have hoF:Only bl w (w2.setCell ⟨g,b*3,none⟩ (.int .i64 (mb+1))):=(ho.of_nil.trans (ho2.mono (fun x hx=>by
     simp at hx
     rcases hx with rfl|rfl
     ·exact hin.1
     ·exact hin.2))).setCell (.inl GB.out) _
    exact⟨by rw[E.out];rfl,hoF,by rw[E.out];exact ListSt.set HBL.out HST.out HI.out (fun x hx=>Nat.lt_of_lt_of_le (HLT.out x hx) hoF.size)⟩
def takesTo (M:List Sp):Nat->List Int×List Sp
 |0=>([],M)
 |k+1=>if(one7 (takesTo M k).2).1.2=true then((takesTo M k).1++[(one7 (takesTo M k).2).1.1],(one7 (takesTo M k).2).2) else takesTo M k
theorem takesTo_more {M:List Sp} {k:Nat} (h:(one7 (takesTo M k).2).1.2=true):takesTo M (k+1)=((takesTo M k).1++[(one7 (takesTo M k).2).1.1],(one7 (takesTo M k).2).2):=if_pos h
theorem takesTo_stop {M:List Sp} {k:Nat} (h:(one7 (takesTo M k).2).1.2=false) (j:Nat):takesTo M (k+j)=takesTo M k:=by
 induction j with
 |zero=>rfl
 |succ j ih=>
  rw[<-Nat.add_assoc,takesTo,if_neg]
  ·exact ih
  ·rw[ih,h];decide
theorem takesTo_len (M:List Sp) (k:Nat):(takesTo M k).1.length<=k:=by
 induction k with
 |zero=>exact Nat.le_refl _
 |succ k ih=>
  rw[takesTo]
  split
  ·rw[List.length_append];simp;omega
  ·omega
theorem sAt_set {M:List Sp} {j:Nat} (s:Sp) (h:j<M.length) (i:Nat):sAt (M.set j s) i=if j=i then s else sAt M i:=by
 simp only[sAt,List.getD_eq_getElem?_getD,List.getElem?_set]
 by_cases h1:j=i
 ·subst h1;simp[h]
 ·simp[h1]
theorem manyTo_set {M:List Sp} {b:Nat} (s:Sp) (h:b<M.length) (k:Nat):manyTo (M.set b s) k=manyTo M k+(if b<k then s.many-(sAt M b).many else 0):=by
 induction k with
 |zero=>simp[manyTo]
 |succ k ih=>
  rw[manyTo,ih,manyTo,sAt_set s h]
  by_cases h1:b=k
  ·subst h1
   rw[if_neg (by omega),if_pos rfl,if_pos (by omega)]
   omega
  ·rw[if_neg h1]
   by_cases h2:b<k
   ·rw[if_pos h2,if_pos (by omega)];omega
   ·rw[if_neg h2,if_neg (by omega)];omega
structure GoodL (c:Cl) (M:List Sp):Prop where
 ok:c.ok
 sp:∀j,j<M.length->(sAt M j).Good/\(sAt M j).of c
 ord:∀i j,i<j->j<M.length->(sAt M i).start+(sAt M i).pages<=(sAt M j).start
 len:M.length<=1024
theorem ListAt.goodL {w:World} {P:Nat} {A:Value} {c:Cl} {L:List En} (h:ListAt w P A c L):GoodL c (spans L):=
 ⟨h.one,fun j hj=>by rw[spans_len] at hj;rw[sAt_spans];exact⟨(h.get hj).1.good,(h.get hj).2⟩,fun i j hij hj=>by rw[spans_len] at hj;rw[sAt_spans,sAt_spans];exact(h.apart hij hj).ord,by rw[spans_len];exact h.len⟩
theorem ListSt.goodL {w:World} {P:Nat} {bl:List Nat} {c:Cl} {M:List Sp} (h:ListSt w P bl c M):GoodL c M:=by
 obtain⟨⟨A,L,h1,rfl,h3⟩,h4⟩:=h
 exact h1.goodL
theorem GoodL.many {c:Cl} {M:List Sp} (h:GoodL c M) (k:Nat) (hk:k<=M.length):0<=manyTo M k/\manyTo M k<=128*k:=by
 induction k with
 |zero=>simp[manyTo]
 |succ k ih=>
  have h1:=ih (by omega)
  have h2:=(h.sp k (by omega)).1.many
  have h3:=(h.sp k (by omega)).1.len
  rw[manyTo]
  omega
theorem GoodL.many_le {c:Cl} {M:List Sp} (h:GoodL c M):0<=manyOf M/\manyOf M<=131072:=by
 have h1:=h.many M.length (Nat.le_refl _)
 have h2:=h.len
 show 0<=manyTo M M.length/\manyTo M M.length<=131072
 omega
theorem one7_some {M:List Sp} (h:(one7 M).1.2=true):∃b,bestTo M M.length=some b/\one7 M=(((sAt M b).take.1.1,true),M.set b (sAt M b).take.2):=by
 unfold one7 at h ⊢
 cases hb:bestTo M M.length with
 |none=>rw[hb] at h;cases h
 |some b=>exact⟨b,rfl,rfl⟩
theorem one7_none {M:List Sp} (h:(one7 M).1.2=false):bestTo M M.length=none/\one7 M=((0,false),M):=by
 unfold one7 at h ⊢
 cases hb:bestTo M M.length with
 |none=>exact⟨rfl,rfl⟩
 |some b=>rw[hb] at h;cases h
theorem GoodL.one_many {c:Cl} {M:List Sp} (h:GoodL c M) (h1:(one7 M).1.2=true):manyOf (one7 M).2=manyOf M+1:=by
 obtain⟨b,hb,he⟩:=one7_some h1
 obtain⟨hl,hr⟩:=bestTo_lt _ _ _ hb
 obtain⟨kk,i1,i2,i3,i4⟩:=Sp.take_room (h.sp b hl).1 hr
 rw[he]
 dsimp only[manyOf]
 rw[List.length_set,manyTo_set _ hl,if_pos hl,i4]
 show _+((sAt M b).many+(1-(sAt M b).st.getD kk 0)-(sAt M b).many)=_
 rw[i3]
 omega
def lenV:Value->Nat
 | .slice _ n _=>n
 |_=>0
theorem lmade_st {w:World} {P:Nat} {bl:List Nat} {c:Cl} {M:List Sp} (h:ListSt w P bl c M):Still Tryz.prog 130 #[.pointer (some ⟨P,0,none⟩)] w (.bool true):=by
 obtain⟨⟨A,L,h1,rfl,h3⟩,h4⟩:=h
 exact lmade_at h1
set_option maxRecDepth 100000 in
set_option maxHeartbeats 4000000 in
theorem lTake_at {w:World} {P:Nat} {bl:List Nat} {c:Cl} {M:List Sp} (h:ListSt w P bl c M) (many:Int):
 Calls Tryz.prog 106 #[.pointer (some ⟨P,0,none⟩),.int .i64 many] w fun e w'=>Only bl w w'/\(many<0->e=.returned (.tuple #[.slice none 0 0,.int .i64 1])/\ListSt w' P bl c M)/\
  (0<=many->∃v,e=.returned (.tuple #[v,.int .i64 0])/\ListSt w' P bl c (takesTo M many.toNat).2/\w'.ownsRow w.heap.size 3 1 v (takesTo M many.toNat).1.length ((takesTo M many.toNat).1.map (Value.int .i64))):=by
 have CM:=Lib.hid (lmade_st h)
 by_cases hm:many<0
 ·have d0:decide (many<0)=true:=decide_eq_true hm
  have HM:=Lib.hid hm
  have HS:=Lib.hid h
  clear hm h
  go_enter Tryz.func106,Tryz.ntmps106
  go_wp2_with (first|(go_at_call 130;with_reducible refine Still.use CM.out ?_))
  go_ret2
  exact⟨Only.refl _ _,fun _=>⟨rfl,HS.out⟩,fun h=>absurd h (by have:=HM.out;omega)⟩
 ·have d0:decide (many<0)=false:=decide_eq_false hm
  obtain⟨m,rfl⟩:∃m:Nat,many=m:=⟨many.toNat,by omega⟩
  rw[Int.toNat_natCast]
  have HS:=Lib.hid h
  have G0:=Lib.hid h.goodL.many_le
  obtain⟨i0,hi,hz0,hz1,hz2⟩:=info_parts info_int
  have HLT:=Lib.hid h.lt
  clear hm h
  go_enter Tryz.func106,Tryz.ntmps106
  go_wp2_with (first|(go_at_call 130;with_reducible refine Still.use CM.out ?_))
  go_loopw[6] (fun u wr=>∃k:Nat,k<=m/\Only bl w wr/\ListSt wr P bl c (takesTo M k).2/\(takesTo M k).1.length=k/\manyOf (takesTo M k).2=manyOf M+k/\wr.ownsRow w.heap.size 3 1 u k ((takesTo M k).1.map (Value.int .i64))) (fun u _=>m-lenV u)
  case atStart=>exact⟨0,Nat.zero_le _,Only.refl _ _,HS.out,rfl,by simp[takesTo],World.ownsRow_nil _ _ _ _⟩
  case round=>
   obtain⟨k,hk,ho,hst,hl,hmn,hown⟩:=hrel
   obtain⟨A',c',rfl,_⟩:=own_slice hown
   have gl:=hst.goodL.many_le
   have g0:=G0.out
   by_cases hlt:k<m
   ·have d1:decide ((k:Int)<m)=true:=decide_eq_true (by omega)
    have CO:=Lib.hid (lone_at hst)
    have HH:=Lib.hid hst
    have HL:=Lib.hid hl
    have HMN:=Lib.hid hmn
    have HK:=Lib.hid (show k<=131072 by omega)
    clear hst hl hmn gl g0
    cases hok:(one7 (takesTo M k).2).1.2 with
    |true=>
     have HN:=Lib.hid (takesTo_more hok)
     have HM2:=Lib.hid (HH.out.goodL.one_many hok)
     have HW:=Lib.hid hown
     rw[hok] at CO
     generalize (one7 (takesTo M k).2).1.1=x at *
     generalize (one7 (takesTo M k).2).2=M2 at *
     clear hok hown
     go_wp2_with fail
     refine CO.out.mono ?_
     rintro e w2 ⟨rfl,ho2,hst2⟩
     have hown2:=own_only HW.out ho2 (fun b hb hbl=>by
      have h1:=own_base HW.out b hb
      have h2:=HLT.out b hbl
      omega)
     have HST2:=Lib.hid hst2
     have hsz:=ho.size
     have hsz2:=ho2.size
     have hk2:=HK.out
     clear hst2
     go_wp2_with (at_builtin;refine wpList_append_own _ rfl _ _ 37 rfl w.heap.size 3 i0 (.int .i64 0) 1 8 Tryz.underlying37 hi hz0 hz1 hz2 rfl (by decide) _ _ _ rfl (hown2.alloc _) ⟨w2.heap.size,0,none⟩ 1 1 [.int .i64 x] rfl rfl (cell_new1 w2 _ _) (by simp;rfl) (by unfold maxLen;omega) (by omega) (by simp;omega) ?_;intro v1 w3 hown3 hg3 _)
     obtain⟨A3,c3,rfl,_⟩:=own_slice hown3
     have ho3:Only (Value.ownBlock (.slice A' k c')).toList w2 w3:=((Only.refl _ w2).alloc _).grown hg3 (fun b hb=>.inl (by have hb':(Value.ownBlock (.slice A' k c'))=some b:=hb;rw[hb'];simp))
     have hst3:=HST2.out.only ho3 (fun b hbl hb=>by
      have h1:=own_base hown2 b (by simpa using hb)
      have h2:=HLT.out b hbl
      omega)
     go_roundw
     case rel=>exact⟨k+1,by omega,((ho.trans ho2).alloc _).grown hg3 (fun b hb=>.inr (own_base hown2 b hb)),by rw[HN.out];exact hst3,by rw[HN.out,List.length_append,HL.out];rfl,by rw[HN.out];show manyOf M2=_;rw[HM2.out,HMN.out];omega,by rw[HN.out,List.map_append];exact hown3⟩
     case measure=>simp[lenV];omega
    |false=>
     have HN:=Lib.hid (fun j=>takesTo_stop hok j)
     have HE:=Lib.hid (one7_none hok).2
     rw[HE.out] at CO
     have HW:=Lib.hid hown
     clear hok hown
     go_wp2_with fail
     refine CO.out.mono ?_
     rintro e w2 ⟨rfl,ho2,hst2⟩
     have hown2:=own_only HW.out ho2 (fun b hb hbl=>by
      have h1:=own_base HW.out b hb
      have h2:=HLT.out b hbl
      omega)
     have HST2:=Lib.hid hst2
     clear hst2
     go_wp2_with fail
     go_ret2
     have hN:takesTo M m=takesTo M k:=by rw[show m=k+(m-k) by omega];exact HN.out _
     exact⟨ho.trans ho2,fun h=>absurd h (by omega),fun _=>⟨_,rfl,by rw[hN];exact HST2.out,by rw[hN,HL.out];exact hown2⟩⟩
   ·have e:k=m:=by omega
    subst e
    have d1:decide ((k:Int)<k)=false:=decide_eq_false (by omega)
    have HH:=Lib.hid hst
    have HL:=Lib.hid hl
    clear hst hl hmn gl g0
    go_wp2_with fail
    go_ret2
    exact⟨ho,fun h=>absurd h (by omega),fun _=>⟨_,rfl,HH.out,by rw[HL.out];exact hown⟩⟩
end Go.Proofs.YtcidjimefnhacaaGreatDoor
