/- TopSchedules, a part of the proof: Tr. -/
import Derived.Test.YtcidjimefnhacaaGreatDoorM13
import Derived.Deep.AppendLies
import Derived.Deep.RegionLaw
set_option linter.unusedVariables false
set_option linter.unusedSimpArgs false
namespace Go.Proofs.YtcidjimefnhacaaGreatDoor
open Go.RowKit
abbrev Bt:=Nat×List Int
def SlRow (w:World) (vs:List Value) (R:List Bt):Prop:=vs.length=R.length/\∀(i:Nat) (v:Value) (b:Bt),vs[i]? =some v->R[i]? =some b->ISl w v b.1 b.2
theorem SlRow.only {w w':World} {vs:List Value} {R:List Bt} {L:List Nat} (h:SlRow w vs R) (ho:Only L w w') (hb:∀b∈R,b.1∉L):SlRow w' vs R:=
 ⟨h.1,fun i v b hv hb'=>(h.2 i v b hv hb').only ho (hb b (List.mem_of_getElem? hb'))⟩
theorem SlRow.at_ {w:World} {vs:List Value} {R:List Bt} (h:SlRow w vs R) {i:Nat} (hi:i<R.length):∃v b,vs[i]? =some v/\R[i]? =some b/\ISl w v b.1 b.2:=by
 have hi':i<vs.length:=by rw[h.1];exact hi
 exact⟨vs[i],R[i],List.getElem?_eq_getElem hi',List.getElem?_eq_getElem hi,h.2 i _ _ (List.getElem?_eq_getElem hi') (List.getElem?_eq_getElem hi)⟩
theorem SlRow.snoc {w:World} {vs:List Value} {R:List Bt} {v:Value} {b:Bt} (h:SlRow w vs R) (hv:ISl w v b.1 b.2):SlRow w (vs++[v]) (R++[b]):=by
 refine⟨by simp[h.1],fun i v' b' h1 h2=>?_⟩
 rcases Nat.lt_or_ge i R.length with hi|hi
 ·rw[List.getElem?_append_left (by rw[h.1];exact hi)] at h1
  rw[List.getElem?_append_left hi] at h2
  exact h.2 i v' b' h1 h2
 ·rw[List.getElem?_append_right (by rw[h.1];exact hi),h.1] at h1
  rw[List.getElem?_append_right hi] at h2
  have:i-R.length=0:=by
   rcases Nat.eq_zero_or_pos (i-R.length) with h3|h3
   ·exact h3
   ·rw[List.getElem?_eq_none (by simp;omega)] at h2;cases h2
  rw[this] at h1 h2
  simp at h1 h2
  subst h1 h2
  exact hv
theorem SlRow.take {w:World} {vs:List Value} {R:List Bt} (h:SlRow w vs R) (k:Nat):SlRow w (vs.take k) (R.take k):=by
 refine⟨by simp[h.1],fun i v b h1 h2=>?_⟩
 rw[List.getElem?_take] at h1 h2
 split at h1
 ·rename_i hi
  rw[if_pos hi] at h2
  exact h.2 i v b h1 h2
 ·cases h1
theorem own_take {w:World} {base:Nat} {e:TypeId} {g n c k:Nat} {xs:List Value} (h:w.ownsRow base e 1 (.slice (some ⟨g,0,none⟩) n c) n xs) (hk:k<=n):w.ownsRow base e 1 (.slice (some ⟨g,0,none⟩) k c) k (xs.take k):=by
 obtain⟨h1,h2⟩:=h
 refine⟨by rw[List.length_take,h1];omega,?_⟩
 rcases h2 with ⟨h2,_⟩|⟨g',cap,cur,hv,hb,hg,h3,h4,h5,h6⟩
 ·cases h2
 ·injection hv with e1 _ e3
  injection e1 with e1
  injection e1 with e1 _ _
  subst e1 e3
  refine .inr ⟨g,c,cur,rfl,hb,hg,by omega,h4,h5,?_⟩
  rw[<-h6,List.take_take,Nat.mul_one,Nat.mul_one,Nat.min_eq_left hk]
structure TrSt (batch room:Int) (p:Nat) (R:List Bt) (w:World) (fp:List Nat):Prop where
 b1:1<=batch/\batch<=32
 r1:0<=room/\room<=8
 ex:∃(low:Int) (A:Value) (vs:List Value),Blk w p 183 #[.int .i64 batch,.int .i64 room,.int .i64 low,A]/\w.ownsRow 0 37 1 A R.length vs/\SlRow w vs R/\
  fp=p::(A.ownBlock.toList++R.map (·.1))/\I64 low
 nd:fp.Nodup
 ln:(R.length:Int)<=room
theorem TrSt.framed (batch room:Int) (p:Nat) (R:List Bt):Framed (TrSt batch room p R):=by
 constructor
 ·rintro w w' fp l ⟨h1,h2,⟨low,A,vs,a1,a2,a3,rfl,a5⟩,h4,h5⟩ ho hb
  refine⟨h1,h2,⟨low,A,vs,a1.only ho (hb _ (by simp)),own_only a2 ho (fun k hk=>hb _ (by simp[hk])),a3.only ho (fun b hb'=>hb _ ?_),rfl,a5⟩,h4,h5⟩
  have:b.1∈R.map (·.1):=List.mem_map.2 ⟨b,hb',rfl⟩
  simp only[List.mem_cons,List.mem_append]
  exact .inr (.inr this)
 ·rintro w fp ⟨h1,h2,⟨low,A,vs,a1,a2,a3,rfl,a5⟩,h4,h5⟩ b hb
  simp only[List.mem_cons,List.mem_append,Option.mem_toList,List.mem_map] at hb
  rcases hb with rfl|hb|⟨x,hx,rfl⟩
  ·exact a1.lt
  ·exact own_lt' a2 b hb
  ·obtain⟨i,hi,rfl⟩:=List.getElem_of_mem hx
   obtain⟨v,b,_,hb,hv⟩:=a3.at_ hi
   rw[List.getElem?_eq_getElem hi] at hb
   injection hb with hb
   rw[hb]
   exact hv.lt
theorem tmade_at {batch room:Int} {p:Nat} {R:List Bt} {w:World} {fp:List Nat} (h:TrSt batch room p R w fp):Still Tryz.prog 129 #[.pointer (some ⟨p,0,none⟩)] w (.bool true):=by
 obtain⟨h1,h2,⟨low,A,vs,a1,a2,a3,rfl,a5⟩,h4,h5⟩:=h
 have z0:=a1.cell_ 0 rfl
 have d1:decide (0<batch)=true:=decide_eq_true (by omega)
 clear a1 a2 a3 h4
 go_enter Tryz.func129,Tryz.ntmps129
 go_wp2_with fail
 go_ret
 exact⟨rfl,rfl⟩
theorem TNew_any (w:World) (batch room:Int) (hb:1<=batch/\batch<=32) (hr:0<=room/\room<=8):Calls Tryz.prog 66 #[.int .i64 batch,.int .i64 room] w fun e w'=>
 e=.returned (.tuple #[.pointer (some ⟨w.heap.size,0,none⟩),.int .i64 0])/\Only [] w w'/\TrSt batch room w.heap.size [] w' [w.heap.size]:=by
 have d1:decide (batch<1)=false:=decide_eq_false (by omega)
 have d2:decide (32<batch)=false:=decide_eq_false (by omega)
 have d3:decide (room<0)=false:=decide_eq_false (by omega)
 have d4:decide (8<room)=false:=decide_eq_false (by omega)
 go_enter Tryz.func66,Tryz.ntmps66
 go_wp2_with fail
 go_ret2
 exact⟨by first|rfl|trivial,(Only.refl [] w).alloc _,hb,hr,⟨0,.slice none 0 0,[],Blk.new w _ _,World.ownsRow_nil _ _ _ _,⟨rfl,by simp⟩,rfl,by unfold I64;omega⟩,by simp,by simpa using hr.1⟩
def TRemoved (batch room:Int) (p:Nat) (R:List Bt) (w:World) (fp:List Nat) (e:Ending) (w':World):Prop:=
 (R=[]/\e=.returned (.tuple #[.slice none 0 0,.int .i64 4])/\w'=w)\/
  (∃v b,R.getLast?=some b/\e=.returned (.tuple #[v,.int .i64 0])/\ISl w' v b.1 b.2/\b.1∈fp/\Only fp w w'/\∃fp',TrSt batch room p R.dropLast w' fp'/\b.1∉fp'/\∀x∈fp',x∈fp)
theorem TRemoved.mk {batch room:Int} {p:Nat} {R:List Bt} {w:World} {g cp k:Nat} {low low':Int} {vs:List Value} {v:Value} {bt:Bt}
 (h1:1<=batch/\batch<=32) (h2:0<=room/\room<=8) (a1:Blk w p 183 #[.int .i64 batch,.int .i64 room,.int .i64 low,.slice (some ⟨g,0,none⟩) R.length cp]) (a2:w.ownsRow 0 37 1 (.slice (some ⟨g,0,none⟩) R.length cp) R.length vs) (a3:SlRow w vs R)
 (nd:(p::((Value.slice (some ⟨g,0,none⟩) R.length cp).ownBlock.toList++R.map (·.1))).Nodup) (hl:(R.length:Int)<=room) (hk:R.length=k+1) (hbt:R[k]? =some bt) (hs:ISl w v bt.1 bt.2) (hlo:I64 low'):
 TRemoved batch room p R w (p::((Value.slice (some ⟨g,0,none⟩) R.length cp).ownBlock.toList++R.map (·.1))) (.returned (.tuple #[v,.int .i64 0])) ((w.setCell ⟨p,3,none⟩ (.slice (some ⟨g,0,none⟩) k cp)).setCell ⟨p,2,none⟩ (.int .i64 low')):=by
 have oS:Only [p] w ((w.setCell ⟨p,3,none⟩ (.slice (some ⟨g,0,none⟩) k cp)).setCell ⟨p,2,none⟩ (.int .i64 low')):=((Only.refl [p] w).setCell (.inl (by simp)) _).setCell (.inl (by simp)) _
 have hR:R=R.dropLast++[bt]:=by
  have hne:R≠ []:=by intro e;rw[e] at hk;cases hk
  have h3:=List.dropLast_concat_getLast hne
  have h4:R.getLast hne=bt:=by
   rw[List.getLast_eq_getElem]
   have:R.length-1=k:=by omega
   have h5:=List.getElem?_eq_getElem (l:=R) (i:=k) (by omega)
   rw[hbt] at h5
   injection h5 with h5
   simp only[this]
   exact h5.symm
  rw[h4] at h3
  exact h3.symm
 have htk:R.dropLast=R.take k:=by rw[List.dropLast_eq_take,hk];rfl
 have hlk:R.dropLast.length=k:=by rw[List.length_dropLast];omega
 have hob:∀n c,(Value.slice (some ⟨g,0,none⟩) n c).ownBlock.toList=[g]:=fun _ _=>rfl
 rw[hob] at nd ⊢
 simp only[List.singleton_append,List.nodup_cons,List.mem_cons,not_or] at nd
 obtain⟨⟨n1,n2⟩,n3,n4⟩:=nd
 have n4':(R.dropLast.map (·.1)).Nodup/\bt.1∉R.dropLast.map (·.1):=by
  rw[hR,List.map_append,List.nodup_append] at n4
  exact⟨n4.1,fun h=>n4.2.2 _ h _ (by simp) rfl⟩
 have hmem:bt∈R:=by rw[hR];simp
 have hsub:∀x,x∈R.dropLast->x∈R:=fun x hx=>List.mem_of_mem_take (i:=k) (by rw[<-htk];exact hx)
 have hbp:bt.1≠p:=fun e=>n2 (List.mem_map.2 ⟨bt,hmem,e⟩)
 have hbg:bt.1≠g:=fun e=>n3 (List.mem_map.2 ⟨bt,hmem,e⟩)
 refine .inr ⟨v,bt,by rw[hR];simp,rfl,hs.only oS (by simpa using hbp),by simp only[List.mem_cons,List.mem_append];exact .inr (.inr (List.mem_map.2 ⟨bt,hmem,rfl⟩)),oS.mono (by simp),p::g::R.dropLast.map (·.1),⟨h1,h2,⟨low',.slice (some ⟨g,0,none⟩) k cp,vs.take k,?_,?_,?_,rfl,hlo⟩,?_,by rw[hlk];omega⟩,?_,?_⟩
 ·have:=(a1.set_ 3 (.slice (some ⟨g,0,none⟩) k cp)).set_ 2 (.int .i64 low')
  simpa using this
 ·rw[hlk]
  exact own_only (own_take a2 (by omega)) oS (fun x hx hb=>by
   have:x=g:=by injection hx with hx;exact hx.symm
   subst this
   simp at hb
   exact n1 hb.symm)
 ·rw[htk]
  refine(a3.take k).only oS (fun b hb=>?_)
  have:=hsub b (by rw[htk];exact hb)
  simp
  exact fun e=>n2 (List.mem_map.2 ⟨b,this,e⟩)
 ·simp only[List.nodup_cons,List.mem_cons,not_or]
  refine⟨⟨n1,fun h=>n2 ?_⟩,fun h=>n3 ?_,n4'.1⟩<;>
  ·obtain⟨y,hy,e⟩:=List.mem_map.1 h
   exact List.mem_map.2 ⟨y,hsub y hy,e⟩
 ·simp only[List.mem_cons,not_or]
  exact⟨hbp,hbg,n4'.2⟩
 ·intro x hx
  simp only[List.mem_cons,List.mem_append] at hx ⊢
  rcases hx with h|h|h
  ·exact .inl h
  ·exact .inr (.inl (by simpa using h))
  ·obtain⟨y,hy,e⟩:=List.mem_map.1 h
   exact .inr (.inr (List.mem_map.2 ⟨y,hsub y hy,e⟩))
set_option maxHeartbeats 2000000 in
theorem TRemove_at {batch room:Int} {p:Nat} {R:List Bt} {w:World} {fp:List Nat} (h:TrSt batch room p R w fp):Calls Tryz.prog 105 #[.pointer (some ⟨p,0,none⟩)] w (TRemoved batch room p R w fp):=by
 have CM:=Lib.hid (tmade_at h)
 obtain⟨h1,h2,⟨low,A,vs,a1,a2,a3,rfl,a5⟩,h4,h5⟩:=h
 obtain⟨ad,cp,rfl,_⟩:=own_slice a2
 have z0:=a1.cell_ 2 rfl
 have z3:=a1.cell_ 3 rfl
 have f2:=a1.frozen 2
 have f3:=a1.frozen 3
 obtain⟨n,hn⟩:∃n,n=R.length:=⟨_,rfl⟩
 rcases Nat.eq_zero_or_pos n with h0|h0
 ·have hR:R=[]:=List.eq_nil_of_length_eq_zero (by omega)
  subst hR
  have z3':w.cell? ⟨p,3,none⟩=some (.slice ad 0 cp):=z3
  clear a1 a2 a3 h4 z3
  go_enter Tryz.func105,Tryz.ntmps105
  go_wp2_with (first|(go_at_call 129;with_reducible refine Still.use CM.out ?_))
  go_ret2
  exact .inl ⟨rfl,rfl,rfl⟩
 ·obtain⟨g,c',e1,_⟩:=own_form a2 (by omega)
  injection e1 with e1 _ e3
  subst e1 e3
  obtain⟨k,hk⟩:∃k,n=k+1:=⟨n-1,by omega⟩
  obtain⟨v,bt,hv,hbt,hs⟩:=a3.at_ (show k<R.length by omega)
  have y0:w.cell? ⟨g,k,none⟩=some v:=by
   rw[a2.cellAt k (by omega)];exact hv
  have HEND:=Lib.hid (fun low' hlo=>TRemoved.mk (low':=low') h1 h2 a1 a2 a3 h4 h5 (by omega) hbt hs hlo)
  have hgp:¬(g=p):=fun e=>by
   subst e
   simp[Value.ownBlock] at h4
  have hpg:¬(p=g):=fun e=>hgp e.symm
  have hn8:(n:Int)<=8:=by omega
  rw[<-hn] at z3
  have d1:((n:Int)==0)=false:=beq_eq_false_iff_ne.2 (by omega)
  have w1':IntKind.i64.wrap ((n:Int)-1)=k:=by rw[IntWalk.i64_in _ (by omega)];omega
  have hkn:(k:Int)<n:=by omega
  have hle:n<=cp:=by
   rcases a2.2 with ⟨h6,_⟩|⟨g',cap,cur,hv',_,_,h7,_⟩
   ·cases h6
   ·injection hv' with _ _ e3;omega
  have hc0:¬(cp=0):=by omega
  clear a1 a2 a3 h4 hs hn hv hbt hk h5
  go_enter Tryz.func105,Tryz.ntmps105
  go_wp2_with (first|(go_at_call 129;with_reducible refine Still.use CM.out ?_))
  all_goals
   go_ret2
   exact HEND.out _ (by unfold I64 at *;omega)
def TInserted (batch room:Int) (p:Nat) (R:List Bt) (l:List Int) (w:World) (fp:List Nat) (e:Ending) (w':World):Prop:=
 (e=.returned (.tuple #[.bool false,.int .i64 0])/\Only [] w w')\/
  (e=.returned (.tuple #[.bool true,.int .i64 0])/\∃b,Turns (TrSt batch room p (R++[(b,l)])) w fp w')
theorem info_sl:(Tryz.prog.info? 37).map (fun i=>(i.zero,i.size,i.bytes))=some (some (.slice none 0 0),1,24):=by kernel_rfl
theorem TInserted.mk {batch room:Int} {p:Nat} {R:List Bt} {w w1 w2:World} {low:Int} {vs:List Value} {l:List Int} {A v:Value} {g b cp:Nat} {ob:Obj} (h1:1<=batch/\batch<=32) (h2:0<=room/\room<=8)
 (a1:Blk w1 p 183 #[.int .i64 batch,.int .i64 room,.int .i64 low,A]) (a2:w1.ownsRow 0 37 1 A R.length vs) (a3:SlRow w1 vs R) (nd:(p::(A.ownBlock.toList++R.map (·.1))).Nodup) (hl:(R.length:Int)<room) (hlo:I64 low)
 (hlt:∀x∈p::(A.ownBlock.toList++R.map (·.1)),x<w.heap.size) (ho:Only [] w w1) (hs:ISl w1 v b l) (hb:w.heap.size<=b)
 (hown:w2.ownsRow 0 37 1 (.slice (some ⟨g,0,none⟩) (R.length+1) cp) (R.length+1) (vs++[v])) (hg:(w1.alloc ob).grownBy w2 A.ownBlock) (hgl:A.ownBlock=some g\/g=(w1.alloc ob).heap.size):
 TInserted batch room p R l w (p::(A.ownBlock.toList++R.map (·.1))) (.returned (.tuple #[.bool true,.int .i64 0])) (w2.setCell ⟨p,3,none⟩ (.slice (some ⟨g,0,none⟩) (R.length+1) cp)):=by
 have oa:Only A.ownBlock.toList w1 w2:=((Only.refl _ w1).alloc ob).grown hg (fun b hb=>.inl (Option.mem_toList.2 hb))
 have oS:Only [p] w2 (w2.setCell ⟨p,3,none⟩ (.slice (some ⟨g,0,none⟩) (R.length+1) cp)):=(Only.refl [p] w2).setCell (.inl (by simp)) _
 have hz:=ho.size
 have hz2:=oa.size
 rw[World.size_alloc] at hgl
 have nd':=nd
 simp only[List.nodup_cons,List.mem_append,not_or,List.nodup_append] at nd'
 obtain⟨⟨n1,n2⟩,n3,n4,n5⟩:=nd'
 have hgp:g≠p:=fun e=>by
  rcases hgl with h|h
  ·exact n1 (by rw[h,e];simp)
  ·have:=hlt p (by simp);omega
 have hgR:∀x∈R.map (·.1),x≠g:=fun x hx e=>by
  rcases hgl with h|h
  ·exact n5 g (by rw[h];simp) x hx e.symm
  ·have:=hlt x (by simp only[List.mem_cons,List.mem_append];exact .inr (.inr hx));omega
 have hbg:b≠g:=fun e=>by
  rcases hgl with h|h
  ·have:=hlt g (by simp[h]);omega
  ·have:=hs.lt;omega
 have hbp:b≠p:=fun e=>by have:=hlt p (by simp);omega
 have hbR:∀x∈R.map (·.1),x≠b:=fun x hx e=>by have:=hlt x (by simp only[List.mem_cons,List.mem_append];exact .inr (.inr hx));omega
 have hbA:b∉A.ownBlock.toList:=fun h=>by have:=hlt b (by simp only[List.mem_cons,List.mem_append];exact .inr (.inl h));omega
 refine .inr ⟨rfl,b,?_,p::(([g]:List Nat)++(R++[(b,l)]).map (·.1)),⟨h1,h2,⟨low,.slice (some ⟨g,0,none⟩) (R.length+1) cp,vs++[v],?_,?_,?_,rfl,hlo⟩,?_,?_⟩,?_⟩
 ·exact((ho.of_nil.trans (oa.mono (fun x hx=>by simp only[List.mem_cons,List.mem_append];exact .inr (.inl hx)))).trans (oS.mono (fun x hx=>by simp at hx;subst hx;simp)))
 ·have:=(a1.only oa n1).set_ 3 (.slice (some ⟨g,0,none⟩) (R.length+1) cp)
  simpa using this
 ·rw[List.length_append]
  exact own_only hown oS (fun x hx hb=>by
   have:x=g:=by injection hx with hx;exact hx.symm
   subst this
   simp at hb
   exact hgp hb)
 ·refine((a3.only oa (fun y hy hb=>n5 _ hb _ (List.mem_map.2 ⟨y,hy,rfl⟩) rfl)).snoc (b:=(b,l)) (hs.only oa hbA)).only oS (fun y hy=>?_)
  rw[List.mem_append,List.mem_singleton] at hy
  simp only[List.mem_singleton]
  rcases hy with hy|rfl
  ·exact fun e=>n2 (List.mem_map.2 ⟨y,hy,e⟩)
  ·exact hbp
 ·simp only[List.singleton_append,List.map_append,List.map_cons,List.map_nil,List.nodup_cons,List.mem_cons,List.mem_append,List.mem_singleton,not_or]
  refine⟨⟨fun e=>hgp e.symm,n2,(fun e=>hbp e.symm),by simp⟩,⟨fun h=>hgR g h rfl,(fun e=>hbg e.symm),by simp⟩,?_⟩
  rw[List.nodup_append]
  exact⟨n4,by simp,fun x hx y hy=>by simp at hy;subst hy;exact hbR x hx⟩
 ·rw[List.length_append]
  simp
  omega
 ·intro x hx
  simp only[List.singleton_append,List.map_append,List.map_cons,List.map_nil,List.mem_cons,List.mem_append,List.mem_singleton] at hx ⊢
  rcases hx with h|h|h|h|h
  ·exact .inl (.inl h)
  ·rcases hgl with h'|h'
   ·exact .inl (.inr (.inl (by rw[h',h];simp)))
   ·exact .inr (by omega)
  ·exact .inl (.inr (.inr h))
  ·exact .inr (by omega)
  ·cases h
set_option maxHeartbeats 2000000 in
theorem TInsert_at {batch room:Int} {p:Nat} {R:List Bt} {w:World} {fp:List Nat} (h:TrSt batch room p R w fp) (v:Value) (b:Nat) (l:List Int) (hv:ISl w v b l) (hl:(l.length:Int)=batch):
 Calls Tryz.prog 146 #[.pointer (some ⟨p,0,none⟩),v] w (TInserted batch room p R l w fp):=by
 have CM:=Lib.hid (tmade_at h)
 have hlt:=(TrSt.framed batch room p R).lt h
 obtain⟨h1,h2,⟨low,A,vs,a1,a2,a3,rfl,a5⟩,h4,h5⟩:=h
 obtain⟨ad,cp,rfl,_⟩:=own_slice a2
 obtain⟨adv,cv,rfl,hcv,hbv,hrd⟩:=hv.reads
 have CC:=Lib.hid (fun W (ho:Only [] w W)=>sclone_any W adv l.length cv l (hrd.only ho (by simp)) (by omega) (by omega))
 have z0:=a1.cell_ 0 rfl
 have z1:=a1.cell_ 1 rfl
 have z3:=a1.cell_ 3 rfl
 have HLT:=Lib.hid hlt
 have A1:=Lib.hid a1
 have A2:=Lib.hid a2
 have A3:=Lib.hid a3
 have ND:=Lib.hid h4
 have HL:=Lib.hid hl
 obtain⟨n,hn⟩:∃n,n=R.length:=⟨_,rfl⟩
 obtain⟨m,hm⟩:∃m,m=l.length:=⟨_,rfl⟩
 have HN:=Lib.hid hn
 have HM:=Lib.hid hm
 rw[<-hm] at CC
 rw[<-hn] at z3
 have d1:((m:Int)==batch)=true:=by rw[hm,hl];simp
 have hn8:(n:Int)<=room:=by omega
 have hm0:0<m:=by omega
 have nP:p∉(Value.ownBlock (.slice ad n cp)).toList:=fun h=>by rw[hn] at h;simp only[List.nodup_cons,List.mem_append,not_or] at h4;exact h4.1.1 h
 have HHV:=Lib.hid hv
 clear a1 a2 a3 h4 hlt hl hrd h5 hv
 by_cases hf:(room:Int)<=n
 ·have d2:decide (room<=(n:Int))=true:=decide_eq_true hf
  clear hn hm
  rw[<-HM.out]
  go_enter Tryz.func146,Tryz.ntmps146
  go_wp2_with (first|(go_at_call 129;with_reducible refine Still.use CM.out ?_))
  go_region
  go_wp2_with fail
  go_ret2
  exact .inl ⟨rfl,Only.of_dr (by repeat (first|exact Dr.refl _|refine Dr.drewN ?_ _|refine Dr.drew ?_))⟩
 ·have d2:decide (room<=(n:Int))=false:=decide_eq_false hf
  clear hn hm
  rw[<-HM.out]
  go_enter Tryz.func146,Tryz.ntmps146
  go_wp2_with (first|(go_at_call 129;with_reducible refine Still.use CM.out ?_))
  go_region
  go_wp2_with fail
  obtain⟨i0,hi,hz0,hz1,hz2⟩:=info_parts info_sl
  have hf8:(n:Int)<room:=by omega
  go_region_law (first
   |(go_simp;go_at_call 26;refine(CC.out _ (Only.of_dr (by repeat (first|exact Dr.refl _|refine Dr.drewN ?_ _|refine Dr.drew ?_)))).mono ?_;rintro e w2 ⟨v2,rfl,hown2,ho2⟩;obtain⟨gb,cb,rfl,hgb,_⟩:=own_form hown2 (by omega);have hoT:Only [] w w2:=(Only.of_dr (l:=[]) (by repeat (first|exact Dr.refl _|refine Dr.drewN ?_ _|refine Dr.drew ?_))).trans ho2;have B2:=A1.out.only hoT (by simp);rw[<-HN.out] at B2;have y3:=B2.cell_ 3 rfl;have y3a:=(B2.alloc (.cells #[.slice (some ⟨gb,0,none⟩) m cb] 37)).cell_ 3 rfl;have hownA:=own_only A2.out hoT (by simp);rw[<-HN.out] at hownA)
   |(refine step_append_lies _ rfl (.tmp 33) (.tmp 36) 181 rfl 0 37 i0 (.slice none 0 0) 1 24 Tryz.underlying181 hi hz0 hz1 hz2 rfl (by decide) (.slice ad n cp) n vs rfl (hownA.alloc _) ⟨w2.heap.size,0,none⟩ 1 1 [.slice (some ⟨gb,0,none⟩) m cb] rfl rfl (cell_new1 w2 _ _) (by simp[Value.oneCell']) (by decide) (by unfold maxLen;omega) (by omega) (Nat.zero_le _) _ rfl ?_;intro g1 k1 w3 hown3 hg3 hgl3 hgt3;have o3:Only (Value.ownBlock (.slice ad n cp)).toList (w2.alloc (.cells #[.slice (some ⟨gb,0,none⟩) m cb] 37)) w3:=(Only.refl _ _).grown hg3 (fun b hb=>.inl (Option.mem_toList.2 hb));have B3:=(B2.alloc (.cells #[.slice (some ⟨gb,0,none⟩) m cb] 37)).only o3 nP;have x33:=B3.cell_ 3 rfl;have f33:=B3.frozen 3))
  all_goals
   go_wp2
   go_ret2
   rw[HN.out] at B2 hownA hown3 hg3 hgl3
   have:=TInserted.mk (R:=R) (l:=l) (w:=w) h1 h2 B2 hownA (A3.out.only hoT (by simp)) ND.out (by rw[<-HN.out];omega) a5 HLT.out hoT (ISl.of_own hown2 HM.out) hgb hown3 hg3 hgl3
   rw[HN.out]
   exact this
end Go.Proofs.YtcidjimefnhacaaGreatDoor
