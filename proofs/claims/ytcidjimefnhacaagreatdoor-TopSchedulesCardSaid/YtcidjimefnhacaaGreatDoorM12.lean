/- TopSchedules, a part of the proof: LL, LM, LN. -/
import Derived.Test.YtcidjimefnhacaaGreatDoorM11
set_option linter.unusedVariables false
set_option linter.unusedSimpArgs false
namespace Go.Proofs.YtcidjimefnhacaaGreatDoor
open Go.RowKit
theorem run_clear3 (W:World) (g o n dc:Nat) (cur:Array Value) (t:TypeId) (hn:0<n) (hg:W.heap[g]? =some (.cells cur t (0,0))) (hfit:o+n*3<=cur.size):
 ∃X:Array Value,(∀ty,(Builtin.clear_ #[178] ty #[.slice (some ⟨g,o,none⟩) n dc]).run Tryz.prog W=.ok (.tuple #[]) (W.setRow g X))/\X.size=cur.size/\∀j,j<o->X.toList[j]? =cur.toList[j]? :=by
 obtain⟨i,hi,hz,hs,hb⟩:=info_parts info_ent
 have hzl:((Builtin.zeroCells (Value.agg #[.int .i64 0,.int .i64 0,.pointer none]).cells n).toList).length=n*3:=by simp[Builtin.zeroCells,Value.cells]
 have h1:∀v∈(Builtin.zeroCells (Value.agg #[.int .i64 0,.int .i64 0,.pointer none]).cells n).toList,v.oneCell'=true:=by
  intro v hv
  simp[Builtin.zeroCells,Value.cells] at hv
  obtain⟨a,ha,rfl⟩:=hv
  rcases (by omega:a%3=0\/a%3=1\/a%3=2) with h|h|h<;>simp[h,Value.oneCell']
 have hst:=run_storeCells_at Tryz.prog g o t (Builtin.zeroCells (Value.agg #[.int .i64 0,.int .i64 0,.pointer none]).cells n).toList 0 cur W hg (by rw[hzl];omega) h1
 simp only[Nat.add_zero] at hst
 obtain⟨m,rfl⟩:∃m,n=m+1:=⟨n-1,by omega⟩
 refine⟨(cur.toList.take o++(Builtin.zeroCells (Value.agg #[.int .i64 0,.int .i64 0,.pointer none]).cells (m+1)).toList++cur.toList.drop (o+((Builtin.zeroCells (Value.agg #[.int .i64 0,.int .i64 0,.pointer none]).cells (m+1)).toList).length)).toArray,fun ty=>by simp[Builtin.clear_,run_underlying Tryz.underlying178,zeroValue,typeInfo,hi,hz,hst],?_,fun j hj=>?_⟩
 ·simp[hzl];omega
 ·simp only[List.toList_toArray]
  rw[splice_at _ _ _ (by rw[hzl,Array.length_toList];omega),if_neg (by omega)]
theorem set3_at (cur:Array Value) (i:Nat) (x y z:Value) (h:i*3+3<=cur.size) (t:Nat):(((cur.setIfInBounds (i*3) x).setIfInBounds (i*3+1) y).setIfInBounds (i*3+2) z).toList[t]? =if i*3<=t/\t<i*3+3 then [x,y,z][t-i*3]? else cur.toList[t]? :=by
 simp only[Array.toList_setIfInBounds,List.getElem?_set,List.length_set,Array.length_toList]
 by_cases h1:i*3<=t/\t<i*3+3
 ·rw[if_pos h1]
  rcases (by omega:t=i*3\/t=i*3+1\/t=i*3+2) with h2|h2|h2
  ·subst h2
   rw[if_neg (by omega),if_neg (by omega),if_pos rfl,if_pos (by omega)]
   simp
  ·subst h2
   rw[if_neg (by omega),if_pos rfl,if_pos (by omega)]
   simp
  ·subst h2
   rw[if_pos rfl,if_pos (by omega)]
   simp
 ·rw[if_neg h1,if_neg (by omega),if_neg (by omega),if_neg (by omega)]
structure KeepInv (w:World) (g cp:Nat) (L:List En) (j:Nat) (cur:Array Value):Prop where
 blk:Blk w g 257 cur
 size:cur.size=cp*3
 low:∀t,t<(keptE L j).length *3->cur.toList[t]? =(entCells (keptE L j))[t]?
 high:∀t,j*3<=t->t<L.length*3->cur.toList[t]? =(entCells L)[t]?
theorem KeepInv.skip {w w':World} {g cp:Nat} {L:List En} {j:Nat} {cur:Array Value} (h:KeepInv w g cp L j cur) (hb:Blk w' g 257 cur) (h0:(eAt L j).s.many=0):KeepInv w' g cp L (j+1) cur:=by
 have e:keptE L (j+1)=keptE L j:=by rw[keptE,if_pos h0]
 exact⟨hb,h.size,by rw[e];exact h.low,fun t h1 h2=>h.high t (by omega) h2⟩
theorem KeepInv.keep {w w':World} {g cp:Nat} {L:List En} {j:Nat} {cur:Array Value} (h:KeepInv w g cp L j cur) (hj:j<L.length) (hcp:L.length<=cp) (hb:Blk w' g 257 (((cur.setIfInBounds ((keptE L j).length *3) (.int .i64 (eAt L j).s.many)).setIfInBounds ((keptE L j).length *3+1) (.int .i64 (eAt L j).s.start)).setIfInBounds ((keptE L j).length *3+2) (.pointer (some ⟨(eAt L j).p,0,none⟩)))) (h0:(eAt L j).s.many≠0):
 KeepInv w' g cp L (j+1) (((cur.setIfInBounds ((keptE L j).length *3) (.int .i64 (eAt L j).s.many)).setIfInBounds ((keptE L j).length *3+1) (.int .i64 (eAt L j).s.start)).setIfInBounds ((keptE L j).length *3+2) (.pointer (some ⟨(eAt L j).p,0,none⟩))):=by
 have e:keptE L (j+1)=keptE L j++[eAt L j]:=by rw[keptE,if_neg h0]
 have hl:=keptE_len L j
 have hs:=h.size
 refine⟨hb,by simpa using hs,fun t ht=>?_,fun t h1 h2=>?_⟩
 ·rw[e,List.length_append] at ht
  simp at ht
  rw[set3_at _ _ _ _ _ (by omega),e,entCells_append]
  by_cases h1:(keptE L j).length *3<=t
  ·rw[if_pos (by omega),List.getElem?_append_right (by rw[entCells_len];exact h1),entCells_len]
   rfl
  ·rw[if_neg (by omega),List.getElem?_append_left (by rw[entCells_len];omega)]
   exact h.low t (by omega)
 ·rw[set3_at _ _ _ _ _ (by omega),if_neg (by omega)]
  exact h.high t (by omega) h2
theorem KeepInv.cells {w:World} {g cp:Nat} {L:List En} {j:Nat} {cur:Array Value} (h:KeepInv w g cp L j cur) (hj:j<L.length):w.cell? ⟨g,j*3,none⟩=some (.int .i64 (eAt L j).s.many)/\w.cell? ⟨g,j*3+1,none⟩=some (.int .i64 (eAt L j).s.start)/\w.cell? ⟨g,j*3+2,none⟩=some (.pointer (some ⟨(eAt L j).p,0,none⟩)):=by
 obtain⟨a1,a2,a3⟩:=entCells_at L j hj
 rw[<-h.high _ (by omega) (by omega),Array.getElem?_toList] at a1 a2 a3
 exact⟨h.blk.cell_ _ a1,h.blk.cell_ _ a2,h.blk.cell_ _ a3⟩
theorem OutAt.write {w0 w w':World} {l:List Nat} {o:Nat} {rs:List (Int×Int)} (h:OutAt w0 w l o rs) (ho:Only l w w') (hl:∀b∈l,b<w0.heap.size):OutAt w0 w' l o rs:=by
 obtain⟨v,h1,h2,h3⟩:=h.ex
 exact⟨h.only.trans ho,h.ge,Nat.lt_of_lt_of_le h.lt ho.size,h.no,v,h1.only ho h.no,own_only h2 ho (fun b hb hbl=>by
  have:=own_base h2 b hb
  have:=hl b hbl
  omega),h3⟩
set_option maxRecDepth 100000 in
set_option maxHeartbeats 8000000 in
theorem ldelete_any {w0 w:World} {o P:Nat} {A:Value} {c:Cl} {L:List En} (h:ListAt w0 P A c L) (hO:OutAt w0 w [] o []):
 Calls Tryz.prog 207 #[A,.func (.func 208) #[] #[.pointer (some ⟨o,0,none⟩)]] w fun e w'=>
  ∃A',e=.returned A'/\A'.ownBlock=A.ownBlock/\w'.ownsRow 0 257 3 A' (keptE L L.length).length (entCells (keptE L L.length))/\OutAt w0 w' A.ownBlock.toList o (zeroTo (spans L) L.length):=by
 have CI:=Lib.hid (lindex_any h hO)
 obtain⟨ad,cp,rfl⟩:=h.slice
 have HA:=Lib.hid h
 have hn:=h.len
 have hoN:o∉(Value.ownBlock (.slice ad L.length cp)).toList:=fun hb=>by
  have:=own_lt h.row o (Option.mem_toList.1 hb)
  have:=hO.ge
  omega
 have HON:=Lib.hid hoN
 obtain⟨N,hN⟩:∃N,N=L.length:=⟨_,rfl⟩
 rw[<-hN] at hn CI
 have HN:=Lib.hid hN
 clear h hO hoN hN
 go_enter Tryz.func207,Tryz.ntmps207
 rw[<-HN.out]
 go_wp2_with fail
 refine CI.out.mono ?_
 rintro e w1 (⟨rfl,hall,hO1⟩|⟨k,hk,rfl,h0,hall,hO1⟩)
 ·have HALL:=Lib.hid hall
  clear hall
  go_wp2_with fail
  go_ret
  have e1:keptE L L.length=L:=by rw[keptE_all _ (Nat.le_refl _) (fun j hj=>HALL.out j (by rw[HN.out];exact hj)),List.take_of_length_le (Nat.le_refl _)]
  have e2:zeroTo (spans L) L.length=[]:=zeroTo_nil _ (fun j hj=>by rw[sAt_spans];exact HALL.out j (by rw[HN.out];exact hj))
  refine⟨_,rfl,rfl,?_,?_⟩
  ·rw[HN.out,e1]
   exact(HA.out.still hO1.only).row
  ·rw[HN.out,e2]
   exact hO1.mono (by simp) HON.out
 ·obtain⟨g,cp',e1⟩:=HA.out.form (by rw[<-HN.out];omega)
  injection e1 with e1 _ e3
  subst e1 e3
  have hge:=hO1.ge
  have hgl:g<w0.heap.size:=own_lt HA.out.row g rfl
  have hkept:keptE L (k+1)=L.take k:=by rw[keptE,if_pos h0];exact keptE_all k (by rw[<-HN.out];omega) hall
  obtain⟨cur0,hK0,hcp1,hcp2⟩:∃cur,KeepInv w1 g cp L (k+1) cur/\N<=cp/\cp<=maxLen:=by
   rcases (HA.out.still hO1.only).row.2 with ⟨h2,_⟩|⟨g',cap,cur,hv,hb,hg,h3,h4,h5,h6⟩
   ·cases h2
   ·injection hv with e1 _ e3
    injection e1 with e1
    injection e1 with e1 _ _
    subst e1 e3
    refine⟨cur,⟨hg,h5,fun t ht=>?_,fun t h1 h2=>?_⟩,by rw[HN.out];exact h3,h4⟩
    ·rw[hkept,List.length_take] at ht
     have hkl:k<=L.length:=by rw[<-HN.out];omega
     rw[hkept,(entCells_take L k hkl).1,<-h6,List.getElem?_take,List.getElem?_take,if_pos (by omega),if_pos (by omega)]
    ·rw[<-h6,List.getElem?_take,if_pos h2]
  have hlk:(keptE L (k+1)).length=k:=by rw[hkept,List.length_take];rw[<-HN.out];omega
  have HK0:=Lib.hid hK0
  have HLK:=Lib.hid hlk
  have HZR:=Lib.hid (hO1.mono (l':=[g]) (by simp) (by simp;omega))
  clear hK0 hlk hkept hall h0 hO1
  have dk:((k:Int)== -1)=false:=beq_eq_false_iff_ne.2 (by omega)
  go_wp2_with fail
  go_loopw[5,6] (fun a b wr=>∃j:Nat,k+1<=j/\j<=N/\a=.int .i64 ((keptE L j).length:Nat)/\b=.int .i64 j/\(keptE L j).length<j/\OutAt w0 wr [g] o (zeroTo (spans L) j)/\∃cur,KeepInv wr g cp L j cur) (fun _ b _=>N-(intOf b).toNat)
  case atStart=>exact⟨k+1,Nat.le_refl _,by omega,by rw[HLK.out],by go_num,by rw[HLK.out];omega,HZR.out,cur0,HK0.out⟩
  case round=>
   obtain⟨j,hj1,hj2,rfl,rfl,hlj,hO,cur,hK⟩:=hrel
   have HK:=Lib.hid hK
   have HOO:=Lib.hid hO
   by_cases hlt:j<N
   ·have d1:decide ((j:Int)<N)=true:=decide_eq_true (by omega)
    obtain⟨q0,q1,q2⟩:=hK.cells (by rw[<-HN.out];exact hlt)
    have hjL:j<L.length:=by rw[<-HN.out];exact hlt
    have hn0:=HA.out.ne _ (eAt_mem hjL)
    have hsp0:=(HA.out.get hjL).1
    have hp0:=hsp0.ltp
    have hspA:=(hsp0.only hO.only (by simp;exact fun e=>hn0.2.2.1 (by rw[e];rfl)) (by simp;exact fun e=>hn0.2.2.2 (by rw[e];rfl))).alloc (.cells #[.int .i64 (eAt L j).s.many,.int .i64 (eAt L j).s.start,.pointer (some ⟨(eAt L j).p,0,none⟩)] 257)
    have CS:=Lib.hid (struck_any (hO.alloc (.cells #[.int .i64 (eAt L j).s.many,.int .i64 (eAt L j).s.start,.pointer (some ⟨(eAt L j).p,0,none⟩)] 257)) (by simp;exact hgl) hspA (by have:=hO.ge;omega) (by have:=zeroTo_len (spans L) j;omega))
    have HS:=Lib.hid (sAt_spans L j)
    have hvb:=Blk.new wr 257 #[.int .i64 (eAt L j).s.many,.int .i64 (eAt L j).s.start,.pointer (some ⟨(eAt L j).p,0,none⟩)]
    have hgw:g<wr.heap.size:=hK.blk.lt
    have HVB:=Lib.hid hvb
    have HJL:=Lib.hid hjL
    have hOB:Only [] wr (wr.alloc (.cells #[.int .i64 (eAt L j).s.many,.int .i64 (eAt L j).s.start,.pointer (some ⟨(eAt L j).p,0,none⟩)] 257)):=(Only.refl _ _).alloc _
    obtain⟨v,hvB,hvO,_⟩:=hO.ex
    have hno:wr.heap.size≠o:=by have:=hO.lt;omega
    have HFR:=Lib.hid (fun w2 (H:∀v,Blk (wr.alloc (.cells #[.int .i64 (eAt L j).s.many,.int .i64 (eAt L j).s.start,.pointer (some ⟨(eAt L j).p,0,none⟩)] 257)) o 265 #[v]->Only (o::v.ownBlock.toList) (wr.alloc (.cells #[.int .i64 (eAt L j).s.many,.int .i64 (eAt L j).s.start,.pointer (some ⟨(eAt L j).p,0,none⟩)] 257)) w2)=>And.intro (H v (hvB.alloc _)) (And.intro (show g∉o::v.ownBlock.toList by
     simp only[List.mem_cons,Option.mem_toList,not_or]
     exact⟨by have:=hO.ge;omega,fun h=>by have:=own_base hvO g h;omega⟩) (show wr.heap.size∉o::v.ownBlock.toList by
     simp only[List.mem_cons,Option.mem_toList,not_or]
     exact⟨hno,fun h=>by have:=own_lt hvO _ h;omega⟩)))
    have hcs:=hK.size
    have hKA:=hK.blk.alloc (.cells #[.int .i64 (eAt L j).s.many,.int .i64 (eAt L j).s.start,.pointer (some ⟨(eAt L j).p,0,none⟩)] 257)
    have HKA:=Lib.hid hKA
    clear hK hO hsp0 hspA hvb hn0 hvB hvO hno hKA
    generalize hi:(keptE L j).length=i at *
    have HI:=Lib.hid hi
    clear hi
    by_cases h0:(eAt L j).s.many=0
    ·have d2:((eAt L j).s.many==0)=true:=by simp[h0]
     have H0:=Lib.hid h0
     have HZ:Hid (zeroTo (spans L) (j+1)=zeroTo (spans L) j++[((eAt L j).s.start,(eAt L j).s.pages)]):=by show _=_;rw[zeroTo,HS.out,if_pos h0]
     have HKE:Hid (keptE L (j+1)=keptE L j):=by show _=_;rw[keptE,if_pos h0]
     rw[if_pos h0,d2] at CS
     clear h0 d2
     go_wp2_with (go_at_call 208;refine CS.out.mono ?_;rintro e w2 ⟨rfl,hO2,hFr⟩)
     obtain⟨f1,f2,f3⟩:=HFR.out w2 hFr
     go_roundw
     case rel=>exact⟨j+1,by omega,by omega,by rw[HKE.out,HI.out],by go_num,by rw[HKE.out,HI.out];omega,by rw[HZ.out];exact hO2,cur,HK.out.skip (HKA.out.only f1 f2) H0.out⟩
     case measure=>simp[intOf];omega
    ·have d2:((eAt L j).s.many==0)=false:=by simp[h0]
     have H0:=Lib.hid h0
     have HZ:Hid (zeroTo (spans L) (j+1)=zeroTo (spans L) j):=by show _=_;rw[zeroTo,HS.out,if_neg h0]
     have HKE:Hid (keptE L (j+1)=keptE L j++[eAt L j]):=by show _=_;rw[keptE,if_neg h0]
     rw[if_neg h0,d2] at CS
     clear h0 d2
     go_wp2_with (go_at_call 208;refine CS.out.mono ?_;rintro e w2 ⟨rfl,hO2,hFr⟩;obtain⟨f1,f2,f3⟩:=HFR.out w2 hFr;have B2:=HKA.out.only f1 f2;have V2:=HVB.out.only f1 f3;have v0:=V2.cell_ 0 rfl;have v1:=V2.cell_ 1 rfl;have v2:=V2.cell_ 2 rfl;have u0:=B2.cell_ (i*3) (Array.getElem?_eq_getElem (by omega));have u1:=B2.cell_ (i*3+1) (Array.getElem?_eq_getElem (by omega));have u2:=B2.cell_ (i*3+2) (Array.getElem?_eq_getElem (by omega));have g0:=B2.frozen (i*3);have g1:=B2.frozen (i*3+1);have g2:=B2.frozen (i*3+2);have HB2:=Lib.hid B2;have HO2:=Lib.hid hO2;clear V2 B2 hFr f1 f2 f3 hO2)
     go_roundw
     case rel=>
      have oS:Only [g] w2 (((w2.setCell ⟨g,i*3,none⟩ (.int .i64 (eAt L j).s.many)).setCell ⟨g,i*3+1,none⟩ (.int .i64 (eAt L j).s.start)).setCell ⟨g,i*3+2,none⟩ (.pointer (some ⟨(eAt L j).p,0,none⟩))):=(((Only.refl [g] w2).setCell (.inl (by simp)) _).setCell (.inl (by simp)) _).setCell (.inl (by simp)) _
      have hBN:=((HB2.out.set_ (i*3) (.int .i64 (eAt L j).s.many)).set_ (i*3+1) (.int .i64 (eAt L j).s.start)).set_ (i*3+2) (.pointer (some ⟨(eAt L j).p,0,none⟩))
      refine⟨j+1,by omega,by omega,by rw[HKE.out,List.length_append,HI.out];simp,by go_num,by rw[HKE.out,List.length_append,HI.out];simp;omega,by rw[HZ.out];exact HO2.out.write oS (by simp;exact hgl),_,HK.out.keep HJL.out (by rw[<-HN.out];exact hcp1) (by rw[HI.out];exact hBN) H0.out⟩
     case measure=>simp[intOf];omega
   ·have e:j=N:=by omega
    subst e
    have d1:decide ((j:Int)<j)=false:=decide_eq_false (by omega)
    have hcs:=hK.size
    obtain⟨X,hX,hXs,hXl⟩:=run_clear3 wr g ((keptE L j).length *3) (j-(keptE L j).length) (cp-(keptE L j).length) cur _ (by omega) hK.blk (by omega)
    generalize hi:(keptE L j).length=i at *
    have HI:=Lib.hid hi
    have HXL:=Lib.hid hXl
    have hci:¬(cp=i):=by omega
    have hb1:(i:Int)<=(j:Int):=by omega
    have hb2:i<=j:=by omega
    clear hi hO hXl hK
    go_wp2_with fail
    go_ret
    refine⟨_,rfl,rfl,⟨?_,.inr ⟨g,cp,X,by rw[HI.out];rfl,Nat.zero_le _,setRow_heap wr g cur X _ _ HK.out.blk,by rw[HI.out];omega,hcp2,by omega,?_⟩⟩,?_⟩
    ·rw[entCells_len]
    ·rw[HI.out]
     apply List.ext_getElem?
     intro t
     rw[List.getElem?_take]
     by_cases ht:t<i*3
     ·rw[if_pos ht,HXL.out t ht]
      exact HK.out.low t (by rw[HI.out];exact ht)
     ·rw[if_neg ht,List.getElem?_eq_none]
      rw[entCells_len,HI.out]
      omega
    ·exact HOO.out.write (only_setRow (Only.refl [g] wr) (.inl (by simp))) (by simp;exact hgl)
abbrev keptOf (M:List Sp):List Sp:=M.filter (fun s=>s.many != 0)
abbrev zeroOf (M:List Sp):List (Int×Int):=zeroTo M M.length
theorem spans_filter (L:List En):spans (L.filter (fun e=>e.s.many != 0))=keptOf (spans L):=by
 induction L with
 |nil=>rfl
 |cons x l ih=>
  simp only[spans,keptOf,List.map_cons,List.filter_cons] at ih ⊢
  split
  ·rw[List.map_cons,ih]
  ·exact ih
set_option maxRecDepth 100000 in
set_option maxHeartbeats 4000000 in
theorem lSweep_at {w:World} {P:Nat} {bl:List Nat} {c:Cl} {M:List Sp} (h:ListSt w P bl c M):
 Calls Tryz.prog 174 #[.pointer (some ⟨P,0,none⟩)] w fun e w'=>∃v,e=.returned v/\w'.ownsRow w.heap.size 243 2 v (zeroOf M).length (cellsR (zeroOf M))/\Only bl w w'/\ListSt w' P bl c (keptOf M):=by
 have CM:=Lib.hid (lmade_st h)
 obtain⟨⟨A,L,hA,rfl,hI⟩,hlt0⟩:=h
 have HA:=Lib.hid hA
 have HI:=Lib.hid hI
 have HLT:=Lib.hid hlt0
 have hO:OutAt w (w.alloc (.cells #[.slice none 0 0] 265)) [] w.heap.size []:=⟨(Only.refl [] w).alloc _,Nat.le_refl _,by simp,by simp,_,Blk.new w _ _,World.ownsRow_nil _ _ _ _,by simp[Value.ownBlock]⟩
 have hPlt:=hA.blk.lt
 have y3:=(hA.still ((Only.refl [] w).alloc (.cells #[.slice none 0 0] 265))).blk.cell_ 3 rfl
 have CD:=Lib.hid (ldelete_any hA hO)
 have HOL:=Lib.hid (own_lt hA.row)
 clear hA hI hlt0 hO
 go_enter Tryz.func174,Tryz.ntmps174
 go_wp2_with (first|(go_at_call 130;with_reducible refine Still.use CM.out ?_))
 refine CD.out.mono ?_
 rintro e w2 ⟨A',rfl,hown,hrow,hO2⟩
 obtain⟨B,n',rfl,_⟩:=own_slice hrow
 have nP:P∉A.ownBlock.toList:=fun h=>HA.out.nA (Option.mem_toList.1 h)
 have bP:=HA.out.blk.only hO2.only nP
 have z3:=bP.cell_ 3 rfl
 have zf:=bP.frozen 3
 obtain⟨v,hvB,hvO,_⟩:=hO2.ex
 have hoP:¬(w.heap.size=P):=by omega
 have hoP':¬(P=w.heap.size):=by omega
 have x0:=hvB.cell_ 0 rfl
 have HBP:=Lib.hid bP
 have HVO:=Lib.hid hvO
 have HONLY:=Lib.hid hO2.only
 have HROW:=Lib.hid hrow
 have HOWN:=Lib.hid hown
 have HNP:=Lib.hid nP
 clear hO2 hvO hvB bP hrow hown nP y3
 go_wp2_with fail
 go_ret
 have oS:Only [P] w2 (w2.setCell ⟨P,3,none⟩ (.slice B (keptE L L.length).length n')):=(Only.refl [P] w2).setCell (.inl (by simp)) _
 have hA:=HA.out
 have hkf:keptE L L.length=L.filter (fun e=>e.s.many != 0):=by rw[keptE_filter _ _ (Nat.le_refl _),List.take_of_length_le (Nat.le_refl _)]
 have hsub:∀e∈keptE L L.length,e∈L:=fun e he=>by rw[hkf] at he;exact(List.mem_filter.1 he).1
 have hnA':(Value.ownBlock (.slice B (keptE L L.length).length n'))≠some P:=by rw[HOWN.out];exact hA.nA
 have hst:ListAt (w2.setCell ⟨P,3,none⟩ (.slice B (keptE L L.length).length n')) P (.slice B (keptE L L.length).length n') c (keptE L L.length):=by
  refine⟨HBP.out.set_ 3 _,hA.one,own_only HROW.out oS (fun k hk hb=>by
   simp at hb
   subst hb
   exact hnA' hk),fun e he=>?_,fun e he=>?_,hnA',?_⟩
  ·have hn:=hA.ne e (hsub e he)
   obtain⟨h1,h2⟩:=hA.sp e (hsub e he)
   exact⟨(h1.only HONLY.out (fun h=>hn.2.2.1 (Option.mem_toList.1 h)) (fun h=>hn.2.2.2 (Option.mem_toList.1 h))).only oS (by simpa using hn.1) (by simpa using hn.2.1),h2⟩
  ·have hn:=hA.ne e (hsub e he)
   rw[HOWN.out]
   exact hn
  ·rw[hkf]
   exact hA.ap.filter _
 have hoF:Only bl w (w2.setCell ⟨P,3,none⟩ (.slice B (keptE L L.length).length n')):=(HONLY.out.mono (fun b hb=>HI.out.a b (Option.mem_toList.1 hb))).setCell (.inl HI.out.p) _
 refine⟨v,rfl,?_,hoF,⟨⟨_,_,hst,by rw[hkf,spans_filter],⟨HI.out.p,fun k hk=>HI.out.a k (by rw[<-HOWN.out];exact hk),fun e he=>HI.out.e e (hsub e he)⟩⟩,fun b hb=>Nat.lt_of_lt_of_le (HLT.out b hb) hoF.size⟩⟩
 show World.ownsRow _ _ _ _ _ (zeroTo (spans L) (spans L).length).length (cellsR (zeroTo (spans L) (spans L).length))
 rw[spans_len]
 exact own_only HVO.out oS (fun k hk hb=>by
  simp at hb
  subst hb
  have:=own_base HVO.out k hk
  omega)
def freeOne (M:List Sp) (a:Int):List Sp:=match ofI M a with
 |none=>M
 |some j=>M.set j ((sAt M j).free a).2
abbrev iAt (l:List Int) (k:Nat):Int:=l.getD k 0
def freeTo (M:List Sp) (o:List Int):Nat->List Sp
 |0=>M
 |k+1=>freeOne (freeTo M o k) (iAt o k)
def badTo (M:List Sp) (o:List Int):Nat->Bool
 |0=>false
 |k+1=>badTo M o k||(isTk M (iAt o k)).2 != 0
def twiceTo (M:List Sp) (o:List Int):Nat->Bool
 |0=>false
 |k+1=>(twiceTo M o k|| !(isTk M (iAt o k)).1)||decide (0<=idxOf (o.take k) (iAt o k))
def putE (M:List Sp) (o:List Int):Int:=if badTo M o o.length then 8 else if twiceTo M o o.length then 9 else 0
def putM (M:List Sp) (o:List Int):List Sp:=if putE M o=0 then keptOf (freeTo M o o.length) else M
def putR (M:List Sp) (o:List Int):List (Int×Int):=if putE M o=0 then zeroOf (freeTo M o o.length) else []
def Sp.like (s t:Sp):Prop:=s.start=t.start/\s.size=t.size/\s.pages=t.pages/\s.batch=t.batch/\s.st.length=t.st.length
theorem Sp.like.idx {s t:Sp} (h:s.like t) (a:Int):s.idx a=t.idx a:=by
 obtain⟨h1,h2,_,_,h5⟩:=h
 unfold Sp.idx
 rw[h1,h2,h5]
theorem Sp.like.obj {s t:Sp} (h:s.like t) (a:Int):s.obj a=t.obj a:=by
 unfold Sp.obj Sp.at_
 rw[h.idx,h.1,h.2.1]
theorem Sp.like.refl (s:Sp):s.like s:=⟨rfl,rfl,rfl,rfl,rfl⟩
theorem Sp.like.trans {s t u:Sp} (h:s.like t) (k:t.like u):s.like u:=⟨h.1.trans k.1,h.2.1.trans k.2.1,h.2.2.1.trans k.2.2.1,h.2.2.2.1.trans k.2.2.2.1,h.2.2.2.2.trans k.2.2.2.2⟩
theorem Sp.free_like (s:Sp) (a:Int):(s.free a).2.like s:=by
 unfold Sp.free
 split
 ·exact Sp.like.refl _
 ·split
  ·exact Sp.like.refl _
  ·exact⟨rfl,rfl,rfl,rfl,by simp[Sp.put]⟩
theorem Sp.take_like (s:Sp):s.take.2.like s:=by
 unfold Sp.take
 split
 ·exact Sp.like.refl _
 ·exact⟨rfl,rfl,rfl,rfl,by simp[Sp.put]⟩
def Like (M N:List Sp):Prop:=M.length=N.length/\∀j,j<M.length->(sAt M j).like (sAt N j)
theorem Like.refl (M:List Sp):Like M M:=⟨rfl,fun _ _=>Sp.like.refl _⟩
theorem Like.trans {M N K:List Sp} (h:Like M N) (k:Like N K):Like M K:=⟨h.1.trans k.1,fun j hj=>(h.2 j hj).trans (k.2 j (by rw[<-h.1];exact hj))⟩
theorem Like.set {M N:List Sp} (h:Like M N) {j:Nat} {s:Sp} (hs:s.like (sAt M j)):Like (M.set j s) N:=by
 refine⟨by rw[List.length_set];exact h.1,fun i hi=>?_⟩
 rw[List.length_set] at hi
 by_cases hj:j<M.length
 ·rw[sAt_set s hj]
  split
  ·rename_i e;subst e;exact hs.trans (h.2 j hj)
  ·exact h.2 i hi
 ·rw[List.set_eq_of_length_le (by omega)]
  exact h.2 i hi
theorem Like.ofI {M N:List Sp} (h:Like M N) (a:Int):ofI M a=ofI N a:=by
 rcases ofI_cases N a with ⟨h1,h2⟩|⟨k,h1,h2,h3,h4⟩
 ·rw[h1]
  exact ofI_none (fun j hj=>by rw[(h.2 j hj).idx];exact h2 j (by rw[<-h.1];exact hj))
 ·rw[h1]
  have hk:k<M.length:=by rw[h.1];exact h2
  exact ofI_some hk (by rw[(h.2 k hk).idx];exact h3) (fun j hj=>by rw[(h.2 j (by omega)).idx];exact h4 j hj)
theorem freeOne_like (M:List Sp) (a:Int):Like (freeOne M a) M:=by
 unfold freeOne
 split
 ·exact Like.refl _
 ·exact(Like.refl M).set (Sp.free_like _ _)
theorem freeTo_like (M:List Sp) (o:List Int) (k:Nat):Like (freeTo M o k) M:=by
 induction k with
 |zero=>exact Like.refl _
 |succ k ih=>exact(freeOne_like _ _).trans ih
theorem isTk_cases {c:Cl} {M:List Sp} (hg:GoodL c M) (a:Int):(isTk M a).2=0\/(isTk M a).2=8:=by
 unfold isTk
 rcases ofI_cases M a with ⟨h1,_⟩|⟨k,h1,h2,h3,h4⟩
 ·rw[h1];exact .inr rfl
 ·rw[h1]
  show((sAt M k).tkn a).2=0\/((sAt M k).tkn a).2=8
  obtain⟨_,_,h5⟩:=Sp.obj_range (hg.sp k h2).1 a
  unfold Sp.tkn
  split
  ·exact .inl rfl
  ·exact h5
theorem isTk_yes {M:List Sp} {a:Int} (h:isTk M a=(true,0)):∃j,ofI M a=some j/\j<M.length/\((sAt M j).obj a).2=0/\(sAt M j).st.getD ((sAt M j).obj a).1.toNat 0=1:=by
 unfold isTk at h
 rcases ofI_cases M a with ⟨h1,_⟩|⟨k,h1,h2,h3,h4⟩
 ·rw[h1] at h;cases h
 ·rw[h1] at h
  have h':(sAt M k).tkn a=(true,0):=h
  unfold Sp.tkn at h'
  split at h'
  ·rename_i h5
   injection h' with h6
   exact⟨k,h1,h2,h5,beq_iff_eq.1 h6⟩
  ·rename_i h5
   injection h' with h6
   cases h6
theorem Sp.obj_addr {s:Sp} {a:Int} (h:(s.obj a).2=0):s.start*256+(s.obj a).1 *s.size=a:=by
 unfold Sp.obj at h ⊢
 split at h
 ·rename_i h1
  rw[if_pos h1]
  split at h
  ·rename_i h2
   rw[if_pos h2]
   exact h2
  ·cases h
 ·rename_i h1
  exact absurd h h1
theorem Sp.free_ok {s:Sp} {a:Int} (h:(s.obj a).2=0) (h1:s.st.getD (s.obj a).1.toNat 0=1):s.free a=(0,s.put (s.obj a).1.toNat 0):=by
 unfold Sp.free
 rw[if_neg (by rw[h];simp),if_neg (by rw[h1];decide)]
theorem isTk_of {M:List Sp} {a:Int} {j:Nat} (h:ofI M a=some j):isTk M a=(sAt M j).tkn a:=by unfold isTk;rw[h]
theorem isTk_free {c:Cl} {M:List Sp} (hg:GoodL c M) {a b:Int} (ha:isTk M a=(true,0)) (hb:isTk M b=(true,0)) (hab:a≠b):isTk (freeOne M a) b=(true,0):=by
 obtain⟨i,i1,i2,i3,i4⟩:=isTk_yes ha
 obtain⟨j,j1,j2,j3,j4⟩:=isTk_yes hb
 rw[isTk_of (j:=j) (by rw[(freeOne_like M a).ofI];exact j1)]
 have e:freeOne M a=M.set i ((sAt M i).free a).2:=by unfold freeOne;rw[i1]
 rw[e,sAt_set _ i2]
 split
 ·rename_i hij
  subst hij
  rw[Sp.free_ok i3 i4]
  have hl:=(Sp.free_like (sAt M i) a)
  rw[Sp.free_ok i3 i4] at hl
  unfold Sp.tkn
  rw[hl.obj,if_pos j3]
  have ra:=Sp.obj_range (hg.sp i i2).1 a
  have rb:=Sp.obj_range (hg.sp i i2).1 b
  have hne:((sAt M i).obj a).1.toNat≠((sAt M i).obj b).1.toNat:=fun h=>hab (by
   have h1:=Sp.obj_addr i3
   have h2:=Sp.obj_addr j3
   have h3:((sAt M i).obj a).1=((sAt M i).obj b).1:=by omega
   rw[h3] at h1
   exact h1.symm.trans h2)
  have:((sAt M i).put ((sAt M i).obj a).1.toNat 0).st.getD ((sAt M i).obj b).1.toNat 0=(sAt M i).st.getD ((sAt M i).obj b).1.toNat 0:=by
   simp only[Sp.put,List.getD_eq_getElem?_getD,List.getElem?_set]
   rw[if_neg hne]
  rw[this,j4]
  rfl
 ·rw[<-isTk_of j1]
  exact hb
theorem GoodL.free {c:Cl} {M:List Sp} (hg:GoodL c M) {a:Int} (ha:isTk M a=(true,0)):GoodL c (freeOne M a):=by
 obtain⟨i,i1,i2,i3,i4⟩:=isTk_yes ha
 have hl:=freeOne_like M a
 have e:freeOne M a=M.set i ((sAt M i).free a).2:=by unfold freeOne;rw[i1]
 refine⟨hg.ok,fun j hj=>?_,fun k j hkj hj=>?_,by rw[hl.1];exact hg.len⟩
 ·have hj':j<M.length:=by rw[<-hl.1];exact hj
  have h1:=hl.2 j hj
  refine⟨?_,h1.2.1.trans (hg.sp j hj').2.1,h1.2.2.1.trans (hg.sp j hj').2.2.1,h1.2.2.2.1.trans (hg.sp j hj').2.2.2⟩
  rw[e,sAt_set _ i2]
  split
  ·rw[Sp.free_ok i3 i4]
   obtain⟨r1,r2,_⟩:=Sp.obj_range (hg.sp i i2).1 a
   exact(hg.sp i i2).1.put (by omega) (.inl rfl)
  ·exact(hg.sp j hj').1
 ·have h1:=hl.2 k (by omega)
  have h2:=hl.2 j hj
  rw[h1.1,h1.2.2.1,h2.1]
  exact hg.ord k j hkj (by rw[<-hl.1];exact hj)
theorem freeTo_tk {c:Cl} {M:List Sp} (hg:GoodL c M) {o:List Int} (k:Nat) (hk:k<=o.length) (h1:badTo M o o.length=false) (h2:twiceTo M o o.length=false):GoodL c (freeTo M o k)/\∀j,k<=j->j<o.length->isTk (freeTo M o k) (iAt o j)=(true,0):=by
 have hB:∀n,badTo M o n=false->∀j,j<n->(isTk M (iAt o j)).2=0:=by
  intro n
  induction n with
  |zero=>intro _ j hj;omega
  |succ n ih=>
   intro hb j hj
   rw[badTo,Bool.or_eq_false_iff] at hb
   by_cases e:j=n
   ·subst e
    have:=hb.2
    simpa using this
   ·exact ih hb.1 j (by omega)
 have hT:∀n,twiceTo M o n=false->∀j,j<n->(isTk M (iAt o j)).1=true/\idxOf (o.take j) (iAt o j)<0:=by
  intro n
  induction n with
  |zero=>intro _ j hj;omega
  |succ n ih=>
   intro hb j hj
   rw[twiceTo,Bool.or_eq_false_iff,Bool.or_eq_false_iff] at hb
   by_cases e:j=n
   ·subst e
    refine⟨by simpa using hb.1.2,?_⟩
    have:=of_decide_eq_false hb.2
    omega
   ·exact ih hb.1.1 j (by omega)
 have hne:∀i j,i<j->j<o.length->iAt o i≠iAt o j:=by
  intro i j hij hj he
  have h3:=(hT _ h2 j hj).2
  rcases idxOf_cases (o.take j) (iAt o j) with ⟨_,h4⟩|⟨k,h4,_⟩
  ·exact h4 i (by rw[List.length_take];omega) (by rw[<-he];simp[iAt,List.getD_eq_getElem?_getD,List.getElem?_take,hij])
  ·omega
 induction k with
 |zero=>
  refine⟨hg,fun j _ hj=>?_⟩
  have a:=hB _ h1 j hj
  have b:=(hT _ h2 j hj).1
  show isTk M (iAt o j)=_
  exact Prod.ext b a
 |succ k ih=>
  obtain⟨i1,i2⟩:=ih (by omega)
  have hk0:=i2 k (Nat.le_refl _) (by omega)
  refine⟨i1.free hk0,fun j hj hjl=>?_⟩
  exact isTk_free i1 hk0 (i2 j (by omega) hjl) (hne k j (by omega) hjl)
end Go.Proofs.YtcidjimefnhacaaGreatDoor
