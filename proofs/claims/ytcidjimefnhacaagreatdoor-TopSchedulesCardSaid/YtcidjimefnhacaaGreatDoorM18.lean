/- TopSchedules, a part of the proof: Ca, Cb, Cc, Da, Db. -/
import Derived.Test.YtcidjimefnhacaaGreatDoorM17
import Derived.Shelf.SlIterI.Collect
import Derived.RangeFuncBound
import Derived.RangeFuncCalls
import Derived.ArgAppend
import Derived.Shelf.SlicesG.Cells
import Derived.Lib.OwnBridge
set_option linter.unusedVariables false
set_option linter.unusedSimpArgs false
namespace Go.Proofs.YtcidjimefnhacaaGreatDoor
open Go.RowKit
open Go.Shelf Go.Maps Go.WideElems
def renK:Ren:=⟨fun x=>if x=7 then 158 else if x=10 then 184 else if x=8 then 157 else 183,
 fun x=>if x=0 then 0 else if x=3 then 4 else if x=4 then 4 else if x=23 then 174 else if x=24 then 37 else if x=26 then 3 else if x=27 then 96 else if x=28 then 97 else 95,fun x=>x⟩
theorem laysK:SlLaysZI.n7 Tryz.prog renK where
 mixed:=by kernel_rfl
 f7:=⟨ "maps.Keys[map[int]bool,int,bool]",by decide,by kernel_rfl⟩
 f10:=⟨ "maps.Keys[map[int]bool,int,bool]$1",by decide,by kernel_rfl⟩
 t0:=by kernel_rfl
 a0:=fun _=>by kernel_rfl
 z0:=fun _=>by kernel_rfl
 v0:=fun _=>by kernel_rfl
 t4:=by kernel_rfl
 a4:=fun _=>by kernel_rfl
 z4:=fun _=>by kernel_rfl
 v4:=fun _=>by kernel_rfl
 t23:=by kernel_rfl
 a23:=fun _=>by kernel_rfl
 z23:=fun _=>by kernel_rfl
 v23:=fun _=>by kernel_rfl
 t26:=by kernel_rfl
 a26:=fun _=>by kernel_rfl
 z26:=fun _=>by kernel_rfl
 v26:=fun _=>by kernel_rfl
 t27:=by kernel_rfl
 a27:=fun _=>by kernel_rfl
 z27:=fun _=>by kernel_rfl
 v27:=fun _=>by kernel_rfl
 t28:=by kernel_rfl
 a28:=fun _=>by kernel_rfl
 z28:=fun _=>by kernel_rfl
 v28:=fun _=>by kernel_rfl
 t33:=by kernel_rfl
 a33:=fun _=>by kernel_rfl
 z33:=fun _=>by kernel_rfl
 v33:=fun _=>by kernel_rfl
theorem laysC:SlLaysZI.n8 Tryz.prog renK where
 mixed:=by kernel_rfl
 f8:=⟨ "slices.Collect[int]",by decide,by kernel_rfl⟩
 f11:=⟨ "slices.AppendSeq[[]int,int]",by decide,by kernel_rfl⟩
 t0:=by kernel_rfl
 a0:=fun _=>by kernel_rfl
 z0:=fun _=>by kernel_rfl
 v0:=fun _=>by kernel_rfl
 t24:=by kernel_rfl
 a24:=fun _=>by kernel_rfl
 z24:=fun _=>by kernel_rfl
 v24:=fun _=>by kernel_rfl
 t26:=by kernel_rfl
 a26:=fun _=>by kernel_rfl
 z26:=fun _=>by kernel_rfl
 v26:=fun _=>by kernel_rfl
 t28:=by kernel_rfl
 a28:=fun _=>by kernel_rfl
 z28:=fun _=>by kernel_rfl
 v28:=fun _=>by kernel_rfl
 i26:=by kernel_rfl
abbrev anyR:Value->Option (DataW Unit×List MemPlace):=fun _=>some (.lit (.bool true),[])
theorem IMap.owns {w:World} {b c:Nat} {G:Int->Option Value} (h:IMap w b G c) (hc:c<=maxLen):∃D0:DataW Unit,w.ownsMap Tryz.prog 3 anyR b c D0/\(intKeys D0).length=c/\Maps.size D0=c/\∀x∈intKeys D0,∃v,G x=some v:=by
 obtain⟨es,clock,h1,h2,hE⟩:=h
 have hr:∀x∈es.toList,∃k:Int,G k=some x.val/\rd Tryz.prog 3 anyR x=some (.int .i64 k,.lit (.bool true)):=fun x hx=>by
  obtain⟨k,a1,a2,a3⟩:=hE.key x hx
  refine⟨k,a3,?_⟩
  unfold rd
  rw[a2,kofI a1]
  rfl
 refine⟨_,⟨es,clock,h1,⟨by omega,hE.st,fun x hx=>by obtain⟨k,_,h⟩:=hr x hx;exact⟨_,h⟩⟩,by omega,rfl⟩,?_,?_,fun x hx=>?_⟩
 ·simp[intKeys,DataW.length_sorted,h2]
 ·simp[Maps.size,DataW.length_sorted,h2]
 ·obtain⟨p,hp,rfl⟩:=List.mem_map.1 hx
  obtain⟨y,hy,rfl⟩:=List.mem_map.1 ((Go.WideShapes.sorted_perm _).mem_iff.1 hp)
  obtain⟨k,h3,h4⟩:=hr y hy
  rw[rg_of h4]
  exact⟨_,h3⟩
theorem keys_at (b:Nat) (w:World):Calls Tryz.prog 158 #[.map (some b)] w fun e w'=>e=.returned (.func (.func 184) #[] #[.pointer (some ⟨w.heap.size,0,none⟩)])/\w'=w.alloc (.cells #[.map (some b)] 174):=by
 refine(callsIn_wide (n:=6)).1 ?_
 exact AnyZI.keys_in laysK Fence.wide 6 trivial rfl (some b) w
theorem collect_at {w:World} {b c Bm:Nat} {G:Int->Option Value} (h:IMap w b G c) (hc:c<=100000) (hm:w.cell? ⟨Bm,0,none⟩=some (.map (some b))) (hBm:Bm<w.heap.size):
 Calls Tryz.prog 157 #[.func (.func 184) #[] #[.pointer (some ⟨Bm,0,none⟩)]] w fun e w'=>∃(v:Value) (ss:List Int),e=.returned v/\ss.length=c/\(∀x∈ss,∃v,G x=some v)/\
  w'.ownsRow w.heap.size 3 1 v ss.length (ss.map (Value.int .i64))/\Only [] w w':=by
 obtain⟨D0,d1,d2,d3,d4⟩:=h.owns (by unfold maxLen;omega)
 refine(callsIn_wide (n:=6)).1 ?_
 have hseq:SeqGives Fence.wide 4 Tryz.prog 184 #[.pointer (some ⟨Bm,0,none⟩)] encZ (fun ss=>ss.Perm (intKeys D0)) (Maps.size D0) w:=
  AnyZI.keys_gives (ρ:=renK) {laysK with} Fence.wide _ trivial rfl (by omega) Bm b c D0 w hBm hm d1
 refine(AnyZI.collect_in laysC Fence.wide 6 trivial trivial rfl (by omega) 184 #[.pointer (some ⟨Bm,0,none⟩)] trivial (enters_of Tryz.func184 (by kernel_rfl) rfl) (fun ss=>ss.Perm (intKeys D0)) (Maps.size D0) (by rw[d3];unfold maxLen;omega) (by rw[d3];omega) w hseq).mono ?_
 rintro e w' ⟨v,ss,rfl,hS,hrow,_,hb⟩
 exact⟨v,ss,rfl,by rw[hS.length_eq,d2],fun x hx=>d4 x (hS.mem_iff.1 hx),hrow,Only.of_below hb⟩
theorem IMap.le {w:World} {b c N:Nat} {G:Int->Option Value} (h:IMap w b G c) (hG:∀k v,G k=some v->0<=k/\k<N):c<=N:=by
 obtain⟨es,clock,h1,h2,hE⟩:=h
 have hl:(es.toList.map (fun x=>x.key)).Nodup:=hE.st.2.2
 have hs:∀y∈es.toList.map (fun x=>x.key),y∈(List.range N).map (fun i=>Value.int .i64 (i:Nat)):=fun y hy=>by
  obtain⟨x,hx,rfl⟩:=List.mem_map.1 hy
  obtain⟨k,_,a2,a3⟩:=hE.key x hx
  obtain⟨k0,k1⟩:=hG k _ a3
  refine List.mem_map.2 ⟨k.toNat,by simp;omega,?_⟩
  rw[a2]
  congr 1
  omega
 have:=List.Nodup.length_le_of_subset hl hs
 simp at this
 omega
theorem min_at {w:World} {v:Value} {g:Nat} {l:List Int} (h:ISl w v g l) (hl:0<l.length) (hb:l.length<=100000):Calls Tryz.prog 156 #[v] w fun e w'=>w'=w/\∃m,e=.returned (.int .i64 m)/\m∈l:=by
 obtain⟨⟨off,cap,rfl,h2,h3⟩,h4⟩:=h
 have d0:decide ((l.length:Int)<1)=false:=decide_eq_false (by omega)
 have d0':decide (l.length<1)=false:=decide_eq_false (by omega)
 have c0:=h3 0 hl
 obtain⟨n,hn⟩:∃n,n=l.length:=⟨_,rfl⟩
 have HC:=Lib.hid h3
 have HM:Hid (l.getD 0 0∈l):=(by rw[List.getD_eq_getElem?_getD,List.getElem?_eq_getElem hl];exact List.getElem_mem hl:l.getD 0 0∈l)
 have HE:Hid (∀j,j<n->l.getD j 0∈l):=fun j hj=>by rw[List.getD_eq_getElem?_getD,List.getElem?_eq_getElem (by omega)];exact List.getElem_mem _
 rw[<-hn] at HC d0 d0' hb hl h2
 generalize hz:l.getD 0 0=z at *
 rw[Nat.add_zero] at c0
 clear h3 hz
 have hli:(0:Int)<n:=by omega
 rw[<-hn]
 clear hn
 go_enter Tryz.func156,Tryz.ntmps156
 go_wp2_with fail
 go_loopw[3,4] (fun u t wr=>∃(m:Int) (k:Nat),u=.int .i64 m/\t=.int .i64 k/\k<=n/\wr=w/\m∈l) (fun _ t _=>n-(match t with| .int _ a=>a.toNat|_=>0))
 case atStart=>exact⟨z,1,rfl,rfl,by omega,rfl,HM.out⟩
 case round=>
  obtain⟨m,k,rfl,rfl,hk,rfl,hm⟩:=hrel
  have HMM:=Lib.hid hm
  clear hm
  by_cases hlt:k<n
  ·have d1:decide ((k:Int)<n)=true:=decide_eq_true (by omega)
   have ck:=HC.out k hlt
   have HG:=Lib.hid (HE.out k hlt)
   generalize l.getD k 0=x at *
   go_wp2_with fail
   go_roundw
   case rel=>exact⟨min m x,k+1,rfl,by go_num,by omega,by first|rfl|trivial,by rcases Int.le_total m x with h|h;rw[Int.min_eq_left h];exact HMM.out;rw[Int.min_eq_right h];exact HG.out⟩
   case measure=>show n-((k:Int)+1).toNat<n-(k:Int).toNat;omega
  ·have d1:decide ((k:Int)<n)=false:=decide_eq_false (by omega)
   go_wp2_with fail
   go_ret
   exact⟨by first|rfl|trivial,m,rfl,HMM.out⟩
end Go.Proofs.YtcidjimefnhacaaGreatDoor
namespace Go.Proofs.YtcidjimefnhacaaGreatDoor
open Go.RowKit
theorem BuSt.count {B:Nat->Int->Bool} (hg:BGood B) {w:World} {b c k:Nat} (h:IMap w b (bG B k) c):c<=256:=by
 refine h.le (fun x v hv=>?_)
 unfold bG at hv
 split at hv
 ·rename_i hb
  obtain⟨h1,h2,h3,h4⟩:=hg.wf k x hb
  obtain⟨p1,p2⟩:=pow_le h1
  omega
 ·cases hv
structure BTook (p:Nat) (B:Nat->Int->Bool) (w:World) (fp:List Nat) (m:Nat) (s:Nat) (w':World):Prop where
 top:s+m<=256
 free:∀x:Int,s<=x->x<s+m->bF B x
 ex:∃B',BuSt p B' w' fp/\∀x,bF B' x↔bF B x/\¬((s:Int)<=x/\x<s+m)
 only:Only fp w w'
set_option maxHeartbeats 4000000 in
theorem btake_at {p:Nat} {B:Nat->Int->Bool} {w:World} {fp:List Nat} (h:BuSt p B w fp) (m:Nat) (hm0:0<m) (hm:m<=256):Calls Tryz.prog 132 #[.pointer (some ⟨p,0,none⟩),.int .i64 m,.int .i64 1] w fun e w'=>
 (∃s:Nat,e=.returned (.tuple #[.int .i64 s,.int .i64 0])/\BTook p B w fp m s w')\/(e=.returned (.tuple #[.int .i64 0,.int .i64 6])/\Only [] w w'):=by
 have CM:=Lib.hid (bmade_at h)
 have H:=Lib.hid h
 obtain⟨h1,g,cp,mm,c,a1,a2,a3,a4,a5,a6,a7,a8⟩:=h
 have z1:=a1.cell_ 1 rfl
 have A3:=Lib.hid a3
 have A4:=Lib.hid a4
 have HG:=Lib.hid h1
 have d1:decide ((m:Int)<1)=false:=decide_eq_false (by omega)
 have d1':decide (m<1)=false:=decide_eq_false (by omega)
 have d2:decide ((1024:Int)<m)=false:=decide_eq_false (by omega)
 have d2':decide (1024<m)=false:=decide_eq_false (by omega)
 have hmx:max (m:Int) 1=m:=by omega
 clear a1 a3 a4 a5 a6 a8 h1
 go_enter Tryz.func132,Tryz.ntmps132
 go_wp2_with (first|(go_at_call 155;with_reducible refine Still.use CM.out ?_))
 go_loopw[42] (fun t wr=>∃k:Nat,k<=9/\t=.int .i64 k/\wr=w) (fun t _=>9-(match t with| .int _ a=>a.toNat|_=>0))
 case atStart=>exact⟨0,Nat.zero_le _,rfl,rfl⟩
 case round=>
  obtain⟨k,hk,rfl,rfl⟩:=hrel
  by_cases hlt:k<9
  ·have e1:decide ((k:Int)<9)=true:=decide_eq_true (by omega)
   have c0:=A3.out.cell hlt
   obtain⟨p1,p2⟩:=pow_le hlt
   have w1:IntKind.i64.wrap ((2:Int) ^ k)=2 ^ k:=IntWalk.i64_in _ (by omega)
   have HI:=Lib.hid (A4.out k hlt)
   have hlen:=fun ty=>(A4.out k hlt).len und_mib ty
   by_cases hbig:(m:Int)<=2 ^ k
   ·have e2:decide ((m:Int)<=2 ^ k)=true:=decide_eq_true hbig
    have HBIG:=Lib.hid hbig
    have HP:=Lib.hid (And.intro p1 p2)
    clear hbig p1 p2
    by_cases hc:0<c k
    ·have e3:decide ((0:Int)<c k)=true:=decide_eq_true (by omega)
     have e3':decide (0<c k)=true:=decide_eq_true hc
     have CKEYS:=Lib.hid (keys_at (mm k) wr)
     have hK1:Only [] wr (wr.alloc (.cells #[.map (some (mm k))] 174)):=(Only.refl _ _).alloc _
     have hcell:(wr.alloc (.cells #[.map (some (mm k))] 174)).cell? ⟨wr.heap.size,0,none⟩=some (.map (some (mm k))):=by
      exact cell_new1 wr (.map (some (mm k))) 174 0 _ rfl
     have CCOL:=Lib.hid (collect_at (HI.out.only hK1 (by simp)) (by have:=BuSt.count HG.out HI.out;omega) hcell (by simp))
     have HK1:=Lib.hid hK1
     clear hcell hK1
     have hgpos:=Lib.hid hc
     clear hc
     go_wp2_with fail
     refine CKEYS.out.mono ?_
     rintro e wk ⟨rfl,rfl⟩
     have CCOL2:=CCOL.out
     generalize wr.alloc (.cells #[.map (some (mm k))] 174)=wa at *
     go_wp2_with fail
     refine CCOL2.mono ?_
     rintro e wc ⟨v,ss,rfl,hl,hss,hown,hoc⟩
     obtain⟨gb,cb,rfl,_,_⟩:=own_form hown (by rw[hl];exact hgpos.out)
     have CMIN:=Lib.hid (min_at (ISl.of_own hown rfl) (by rw[hl];exact hgpos.out) (by rw[hl];have:=BuSt.count HG.out HI.out;omega))
     have HSS:=Lib.hid hss
     have HOC:=Lib.hid (HK1.out.trans hoc)
     clear hl hss hown hoc CCOL2 CCOL CKEYS
     go_wp2_with fail
     refine CMIN.out.mono ?_
     rintro e wd ⟨rfl,x,rfl,hx⟩
     obtain⟨vx,hvx⟩:=HSS.out x hx
     have hbx:B k x=true:=by
      unfold bG at hvx
      split at hvx
      ·assumption
      ·cases hvx
     obtain⟨t1,t2,t3,t4⟩:=HG.out.wf k x hbx
     obtain⟨s,rfl⟩:∃s:Nat,x=s:=⟨x.toNat,by omega⟩
     have HFR:=Lib.hid (show ∀x:Int,s<=x->x<s+m->bF B x from fun x h1 h2=>⟨k,s,hbx,h1,by have:=HBIG.out;omega⟩)
     have HTOP:Hid (s+m<=256):=by have:=HBIG.out;show _<=_;omega
     have CCUT:=Lib.hid (bcut_at ((BuSt.framed p B).still H.out HOC.out) s m HTOP.out HFR.out)
     clear hx hvx hbx t1 t2 t3 t4 CMIN
     go_wp2_with fail
     refine CCUT.out.mono ?_
     rintro e we ⟨rfl,B2,b1,b2,b3⟩
     have E:Hid (BTook p B wr fp m s we):=⟨HTOP.out,HFR.out,⟨B2,b1,b3⟩,HOC.out.of_nil.trans b2⟩
     clear b1 b2 b3 CCUT
     go_wp2_with fail
     go_ret2
     exact .inl ⟨s,rfl,E.out⟩
    ·have e3:decide ((0:Int)<c k)=false:=decide_eq_false (by omega)
     have e3':decide (0<c k)=false:=decide_eq_false hc
     go_wp2_with fail
     go_roundw
     case rel=>exact⟨k+1,by omega,by go_num,by first|rfl|trivial⟩
     case measure=>show 9-((k:Int)+1).toNat<9-(k:Int).toNat;omega
   ·have e2:decide ((m:Int)<=2 ^ k)=false:=decide_eq_false hbig
    go_wp2_with fail
    go_roundw
    case rel=>exact⟨k+1,by omega,by go_num,by first|rfl|trivial⟩
    case measure=>show 9-((k:Int)+1).toNat<9-(k:Int).toNat;omega
  ·have e:k=9:=by omega
   subst e
   go_wp2_with fail
   go_ret2
   exact .inr ⟨rfl,Only.refl _ _⟩
theorem own_row {w:World} {base g n c:Nat} {e:TypeId} {xs:List Value} {f:Nat->Value} (h:w.ownsRow base e 1 (.slice (some ⟨g,0,none⟩) n c) n xs) (hf:∀k,k<n->xs[k]? =some (f k)):V.Row w g n f/\n<=c:=by
 rcases h.2 with ⟨h2,_⟩|⟨g',cap,cur,hv,hb,hg,h3,h4,h5,h6⟩
 ·cases h2
 ·injection hv with e1 _ e3
  injection e1 with e1
  injection e1 with e1 _ _
  subst e1 e3
  refine⟨⟨e,cur,hg,by omega,fun k hk=>?_⟩,h3⟩
  rw[<-Array.getElem?_toList,<-hf k hk,<-h6,List.getElem?_take,if_pos (by omega)]
theorem two_lt {k:Nat} (hk:k<10):(2:Int) ^ k<=256↔k<9:=by
 rcases (show k=0\/k=1\/k=2\/k=3\/k=4\/k=5\/k=6\/k=7\/k=8\/k=9 by omega) with rfl|rfl|rfl|rfl|rfl|rfl|rfl|rfl|rfl|rfl<;>decide
set_option maxHeartbeats 2000000 in
theorem bnew_at (w:World):Calls Tryz.prog 63 #[.int .i64 256] w fun e w'=>∃p fp,e=.returned (.tuple #[.pointer (some ⟨p,0,none⟩),.int .i64 0])/\Only [] w w'/\BuSt p (fun _ _=>false) w' fp/\∀b∈fp,w.heap.size<=b:=by
 have hmm:= @run_makeMap Tryz.prog
 obtain⟨i0,hi,hz0,hz1,hz2⟩:=info_parts (show(Tryz.prog.info? 174).map (fun i=>(i.zero,i.size,i.bytes))=some (some (.map none),1,8) by kernel_rfl)
 go_enter Tryz.func63,Tryz.ntmps63
 go_wp2_with fail
 have ho0:Only [] w (w.alloc (.cells #[.int .i64 256,.slice none 0 0] 173)):=(Only.refl [] w).alloc _
 have hb0:=Blk.new w 173 #[.int .i64 256,.slice none 0 0]
 have hz0':(w.alloc (.cells #[.int .i64 256,.slice none 0 0] 173)).heap.size=w.heap.size+1:=by simp
 obtain⟨p,hp⟩:∃p,p=w.heap.size:=⟨_,rfl⟩
 rw[<-hp] at hb0 hz0' ⊢
 generalize w.alloc (.cells #[.int .i64 256,.slice none 0 0] 173)=w0 at *
 have hpw:w.heap.size<=p:=Nat.le_of_eq hp.symm
 have hpw':w.heap.size<p+1:=by omega
 clear hp
 go_loopw[5] (fun t wr=>∃k:Nat,k<=9/\t=.int .i64 (2 ^ k)/\Only [] w wr/\∃(A:Value) (m:Nat->Nat),Blk wr p 173 #[.int .i64 256,A]/\wr.ownsRow (p+1) 174 1 A k ((List.range k).map fun j=>.map (some (m j)))/\
  (∀j,j<k->IMap wr (m j) (fun _=>none) 0/\p+1<=m j)/\∀j j',j<k->j'<k->m j=m j'->j=j') (fun t _=>1024-(match t with| .int _ a=>a.toNat|_=>0))
 case atStart=>exact⟨0,by omega,rfl,ho0,.slice none 0 0,fun _=>0,hb0,World.ownsRow_nil _ _ _ _,fun j hj=>absurd hj (by omega),fun j j' hj=>absurd hj (by omega)⟩
 case round=>
  obtain⟨k,hk,rfl,ho,A,m,hb,hown,hm,hne⟩:=hrel
  have h2:=two_lt (show k<10 by omega)
  obtain⟨q1,q2⟩:=pow_lt9 (show k<10 by omega)
  have hsz:=ho.size
  have hpl:=hb.lt
  have HM:=Lib.hid hm
  have HNE:=Lib.hid hne
  have HO:=Lib.hid ho
  have HB:=Lib.hid hb
  have z1:=hb.cell_ 1 rfl
  have f1:=hb.frozen 1
  by_cases hlt:k<9
  ·have d1:decide ((2:Int) ^ k<=256)=true:=decide_eq_true (h2.2 hlt)
   have wp:IntKind.i64.wrap ((2:Int) ^ k*2)=2 ^ (k+1):=by rw[<-Int.pow_succ];exact IntWalk.i64_in _ (by have:=pow_lt9 (show k+1<10 by omega);omega)
   have hp1:(2:Int) ^ (k+1)=2 ^ k*2:=Int.pow_succ ..
   have HP1:=Lib.hid hp1
   have HOWN:=Lib.hid hown
   have hk9:(k:Int)<=9:=by omega
   clear h2 hm hne ho hb hp1
   have hom:Only [] wr (wr.alloc (.map #[] 0)):=(Only.refl [] wr).alloc _
   have hown1:=hown.alloc (.map #[] 0)
   have him:=Lib.hid (IMap.made wr)
   have z2:=(HB.out.alloc (.map #[] 0)).cell_ 1 rfl
   have z3:=((HB.out.alloc (.map #[] 0)).alloc (.cells #[.map (some wr.heap.size)] 174)).cell_ 1 rfl
   have hcn:=cell_new1 (wr.alloc (.map #[] 0)) (.map (some wr.heap.size)) 174
   rw[World.size_alloc] at hcn
   have nP:p∉A.ownBlock.toList:=fun h=>by have:=own_base HOWN.out p (Option.mem_toList.1 h);omega
   clear hown
   go_wp2_with (at_builtin;go_loud (refine wpList_append_own _ rfl _ _ 171 rfl (p+1) 174 i0 (.map none) 1 8 Tryz.underlying171 hi hz0 hz1 hz2 rfl (by decide) A k _ rfl (hown1.alloc _) ⟨wr.heap.size+1,0,none⟩ 1 1 [.map (some wr.heap.size)] rfl rfl hcn (by simp[Value.oneCell']) (by unfold maxLen;omega) (by omega) (by simp;omega) ?_;intro v1 w3 hown3 hg3 _;obtain⟨g3,c3,rfl,hgb,_⟩:=own_form hown3 (by omega);have o3:Only A.ownBlock.toList ((wr.alloc (.map #[] 0)).alloc (.cells #[.map (some wr.heap.size)] 174)) w3:=(Only.refl _ _).grown hg3 (fun b hb=>.inl (Option.mem_toList.2 hb));have B3:=((HB.out.alloc (.map #[] 0)).alloc (.cells #[.map (some wr.heap.size)] 174)).only o3 nP;have x3:=B3.cell_ 1 rfl;have f3:=B3.frozen 1))
   go_roundw
   case rel=>
    have oS:Only [p] w3 (w3.setCell ⟨p,1,none⟩ (.slice (some ⟨g3,0,none⟩) (k+1) c3)):=(Only.refl [p] w3).setCell (p:=⟨p,1,none⟩) (.inl (by simp)) _
    have oA:Only [] w ((wr.alloc (.map #[] 0)).alloc (.cells #[.map (some wr.heap.size)] 174)):=(HO.out.alloc _).alloc _
    have oN:Only [] w w3:=oA.then_ o3 (fun b hb=>.inr (by have:=own_base HOWN.out b (Option.mem_toList.1 hb);omega))
    have hcast:Only (p::A.ownBlock.toList) wr (w3.setCell ⟨p,1,none⟩ (.slice (some ⟨g3,0,none⟩) (k+1) c3)):=((((Only.refl _ _).alloc _).alloc _).then_ o3 (fun b hb=>.inl (by simp at hb ⊢;exact .inr hb))).then_ oS (fun b hb=>.inl (by simp at hb ⊢;exact .inl hb))
    have hnew:IMap (w3.setCell ⟨p,1,none⟩ (.slice (some ⟨g3,0,none⟩) (k+1) c3)) wr.heap.size (fun _=>none) 0:=((him.out.only ((Only.refl [] _).alloc _) (by simp)).only o3 (fun h=>by have:=own_lt' HOWN.out _ (Option.mem_toList.1 h);omega)).only oS (by simp;omega)
    refine⟨k+1,by omega,rfl,oN.then_ oS (fun b hb=>.inr (by simp at hb;omega)),_,fun j=>if j=k then wr.heap.size else m j,B3.set_ 1 _,?_,fun j hj=>?_,fun j j' hj hj' he=>?_⟩
    ·have:(List.range (k+1)).map (fun j=>Value.map (some (if j=k then wr.heap.size else m j)))=(List.range k).map (fun j=>Value.map (some (m j)))++[.map (some wr.heap.size)]:=by
      have e1:(List.range k).map (fun j=>Value.map (some (if j=k then wr.heap.size else m j)))=(List.range k).map (fun j=>Value.map (some (m j))):=List.map_congr_left (fun j hj=>by rw[List.mem_range] at hj;rw[if_neg (by omega)])
      rw[List.range_succ,List.map_append,e1,List.map_cons,List.map_nil,if_pos rfl]
     rw[this]
     exact own_only hown3 oS (fun b hb=>by have hb':g3=b:=by injection hb
                                           subst hb';simp;omega)
    ·try dsimp only
     split
     ·exact⟨hnew,by omega⟩
     ·rename_i hne
      obtain⟨i1,i2⟩:=HM.out j (by omega)
      refine⟨i1.only hcast ?_,i2⟩
      intro h
      simp only[List.mem_cons,Option.mem_toList] at h
      rcases h with h|h
      ·omega
      ·rcases HOWN.out.2 with ⟨h5,_⟩|⟨g',cap,cur,h5,_,hg',_⟩
       ·rw[h5] at h;cases h
       ·rw[h5] at h
        have e:g'=m j:=by injection h
        obtain⟨es,cl,h6,_⟩:=i1
        rw[<-e,hg'] at h6
        cases h6
    ·try dsimp only at he
     have hl:=fun j hj=>(HM.out j hj).1.lt
     by_cases e1:j=k
     ·by_cases e2:j'=k
      ·omega
      ·rw[if_pos e1,if_neg e2] at he
       have:=hl j' (by omega);omega
     ·by_cases e2:j'=k
      ·rw[if_neg e1,if_pos e2] at he
       have:=hl j (by omega);omega
      ·rw[if_neg e1,if_neg e2] at he
       exact HNE.out j j' (by omega) (by omega) he
   case measure=>show 1024-((2:Int) ^ (k+1)).toNat<1024-((2:Int) ^ k).toNat;rw[HP1.out];omega
  ·have e:k=9:=by omega
   subst e
   have d1:decide ((2:Int) ^ 9<=256)=false:=by decide
   obtain⟨g,cp,rfl,hgb,hgl⟩:=own_form hown (by omega)
   clear z1 f1
   go_wp2_with fail
   go_ret2
   obtain⟨r1,r2⟩:=own_row (f:=fun j=>.map (some (m j))) hown (fun j hj=>by rw[List.getElem?_map,List.getElem?_range hj];rfl)
   have hmg:∀j,j<9->m j≠g:=fun j hj e=>by
    obtain⟨es,cl,h6,_⟩:=(HM.out j hj).1
    obtain⟨t,cs,h7,_⟩:=r1
    rw[e] at h6
    unfold Blk at h7
    rw[h7] at h6
    cases h6
   refine⟨p,p::g::(List.range 9).map m,rfl,HO.out,⟨⟨fun k s h=>(by cases h),fun k s k' s' h=>(by cases h)⟩,g,cp,m,fun _=>0,HB.out,r2,r1,fun k hk=>((HM.out k hk).1).ext (fun s=>rfl),fun j j' hj hj' he=>HNE.out j j' hj hj' he,fun j hj=>⟨by have:=(HM.out j hj).2;omega,hmg j hj⟩,by omega,fun b=>?_⟩,fun b hb=>?_⟩
   ·simp only[List.mem_cons,List.mem_map,List.mem_range]
    constructor
    ·rintro (h|h|⟨j,hj,rfl⟩)
     ·exact .inl h
     ·exact .inr (.inl h)
     ·exact .inr (.inr ⟨j,hj,rfl⟩)
    ·rintro (h|h|⟨j,hj,rfl⟩)
     ·exact .inl h
     ·exact .inr (.inl h)
     ·exact .inr (.inr ⟨j,hj,rfl⟩)
   ·simp only[List.mem_cons,List.mem_map,List.mem_range] at hb
    rcases hb with rfl|rfl|⟨j,hj,rfl⟩
    ·exact hpw
    ·omega
    ·have:=(HM.out j hj).2;omega
theorem wpList_slice_to {P:Program} {w:World} {ops:Array Oper} {rest:List Oper} {o:Oper} {a:Act} {Q:Exit->Act->World->Prop} (hgd:o.guard=none) (t:TypeId) (x y:Operand)
 (ho:o.op=.slice t x none (some y) none) (e:TypeId) (hte:P.elem t=e) (ht:P.underlying t=some (.slice e)) (i:TypeInfo) (hi:P.info? e=some i) (hsize:i.size=1)
 (ad:Option Addr) (len cap k:Nat) (hx:a.eval x=.slice ad len cap) (hy:a.eval y=.int .i64 (k:Nat)) (hk:k<=cap)
 (h:∀v,v=sliced ad 0 k cap 1->wpList P ops Q rest (a.put o.dst v) w):wpList P ops Q (o::rest) a w:=by
 subst hte
 refine wpList_plain hgd fun K hK=>?_
 unfold Oper.wp
 have hr:=run_slice_h (P:=P) w t ad len cap ht .i64 (k:Int) (by omega) (by omega)
 have hs:=run_sliceAt_slice (P:=P) w t
 have hsz:(sizeOf (P.elem t)).run P w=.ok 1 w:=by simp[sizeOf,typeInfo,hi,hsize]
 simp only[hsz,Result.andThen_ok,Int.toNat_natCast] at hr
 simp only[execOp,ho,Option.map_none,Option.map_some,hx,hy,hs _ _ _ _ ht,hr,Sem.run_bind,Sem.run_pure,Result.andThen_ok]
 exact hK _ _ (h _ rfl)
theorem wpList_slice_from {P:Program} {w:World} {ops:Array Oper} {rest:List Oper} {o:Oper} {a:Act} {Q:Exit->Act->World->Prop} (hgd:o.guard=none) (t:TypeId) (x y:Operand)
 (ho:o.op=.slice t x (some y) none none) (e:TypeId) (hte:P.elem t=e) (ht:P.underlying t=some (.slice e)) (i:TypeInfo) (hi:P.info? e=some i) (hsize:i.size=1)
 (ad:Option Addr) (len cap k:Nat) (hx:a.eval x=.slice ad len cap) (hy:a.eval y=.int .i64 (k:Nat)) (hk:k<=len)
 (h:∀v,v=sliced ad k len cap 1->wpList P ops Q rest (a.put o.dst v) w):wpList P ops Q (o::rest) a w:=by
 subst hte
 refine wpList_plain hgd fun K hK=>?_
 unfold Oper.wp
 have hr:=run_slice_l (P:=P) w t ad len cap ht .i64 (k:Int) (by omega) (by omega)
 have hs:=run_sliceAt_slice (P:=P) w t
 have hsz:(sizeOf (P.elem t)).run P w=.ok 1 w:=by simp[sizeOf,typeInfo,hi,hsize]
 simp only[hsz,Result.andThen_ok,Int.toNat_natCast] at hr
 simp only[execOp,ho,Option.map_none,Option.map_some,hx,hy,hs _ _ _ _ ht,hr,Sem.run_bind,Sem.run_pure,Result.andThen_ok]
 exact hK _ _ (h _ rfl)
theorem elem_ints:Tryz.prog.elem 37=3:=by kernel_rfl
def OSl (w:World) (v:Value) (fs:List Nat) (l:List Int):Prop:=(l=[]/\∃A c,v=.slice A 0 c/\(A=none->c=0))\/(0<l.length/\∃b,b∈fs/\ISl w v b l)
theorem add_pl (b o j:Nat):(⟨b,o,none⟩:Addr).add j=⟨b,o+j,none⟩:=by unfold Addr.add;split<;>simp_all
namespace OSl
variable {w w':World} {v:Value} {fs fs':List Nat} {l:List Int}
theorem nil (w:World) (fs:List Nat):OSl w (.slice none 0 0) fs []:=.inl ⟨rfl,none,0,rfl,fun _=>rfl⟩
theorem form (h:OSl w v fs l):∃A c,v=.slice A l.length c/\l.length<=c/\(A=none->l.length=0/\c=0):=by
 rcases h with ⟨rfl,A,c,rfl,h⟩|⟨h0,b,hb,⟨off,cap,rfl,h2,h3⟩,h4⟩
 ·exact⟨A,c,rfl,Nat.zero_le _,fun e=>⟨rfl,h e⟩⟩
 ·exact⟨_,_,rfl,h2,fun e=>by cases e⟩
theorem only {L:List Nat} (h:OSl w v fs l) (ho:Only L w w') (hb:∀b∈fs,b∉L):OSl w' v fs l:=by
 rcases h with h|⟨h0,b,hb',h⟩
 ·exact .inl h
 ·exact .inr ⟨h0,b,hb',h.only ho (hb b hb')⟩
theorem still (h:OSl w v fs l) (ho:Only [] w w'):OSl w' v fs l:=h.only ho (by simp)
theorem mono (h:OSl w v fs l) (hs:∀b∈fs,b∈fs'):OSl w v fs' l:=by
 rcases h with h|⟨h0,b,hb',h⟩
 ·exact .inl h
 ·exact .inr ⟨h0,b,hs b hb',h⟩
theorem cells (h:OSl w v fs l):∃A c,v=.slice A l.length c/\∀b,A=some b->∀j u,(l.map (Value.int .i64))[j]? =some u->w.cell? (b.add j)=some u:=by
 rcases h with ⟨rfl,A,c,rfl,h⟩|⟨h0,b,hb,⟨off,cap,rfl,h2,h3⟩,h4⟩
 ·exact⟨A,c,rfl,fun b _ j u hu=>by simp at hu⟩
 ·refine⟨_,_,rfl,fun b' hb' j u hu=>?_⟩
  injection hb' with hb'
  subst hb'
  have hj:j<l.length:=by
   rcases Nat.lt_or_ge j l.length with h1|h1
   ·exact h1
   ·rw[List.getElem?_eq_none (by rw[List.length_map];exact h1)] at hu;cases hu
  rw[add_pl,h3 j hj,<-hu,List.getElem?_map,List.getElem?_eq_getElem hj]
  simp[List.getD_eq_getElem?_getD,List.getElem?_eq_getElem hj]
theorem take {A:Option Addr} {n c k:Nat} (h:OSl w (.slice A n c) fs l) (hk:k<=l.length):OSl w (sliced A 0 k c 1) fs (l.take k):=by
 rcases h with ⟨rfl,A',c',h1,h2⟩|⟨h0,b,hb,⟨off,cap,h1,h2,h3⟩,h4⟩
 ·injection h1 with e1 e2 e3
  subst e1 e2 e3
  have:k=0:=by simpa using hk
  subst this
  refine .inl ⟨by simp,_,_,rfl,fun e=>?_⟩
  split at e
  ·rename_i h;omega
  ·cases A with
   |none=>have:=h2 rfl;omega
   |some a=>cases e
 ·injection h1 with e1 e2 e3
  subst e1 e2 e3
  unfold sliced
  rw[if_neg (by omega),Option.map_some,add_pl]
  rcases Nat.eq_zero_or_pos k with rfl|hk0
  ·exact .inl ⟨by simp,_,_,rfl,fun e=>by cases e⟩
  ·refine .inr ⟨by rw[List.length_take];omega,b,hb,⟨off,c,?_,by rw[List.length_take];omega,fun j hj=>?_⟩,h4⟩
   ·rw[List.length_take,Nat.min_eq_left hk];simp
   ·rw[List.length_take] at hj
    rw[h3 j (by omega)]
    simp[List.getD_eq_getElem?_getD,List.getElem?_take,show j<k by omega]
theorem drop {A:Option Addr} {n c k:Nat} (h:OSl w (.slice A n c) fs l) (hk:k<=l.length):OSl w (sliced A k n c 1) fs (l.drop k):=by
 rcases h with ⟨rfl,A',c',h1,h2⟩|⟨h0,b,hb,⟨off,cap,h1,h2,h3⟩,h4⟩
 ·injection h1 with e1 e2 e3
  subst e1 e2 e3
  have:k=0:=by simpa using hk
  subst this
  refine .inl ⟨by simp,_,_,rfl,fun e=>?_⟩
  split at e
  ·rename_i h;omega
  ·cases A with
   |none=>have:=h2 rfl;omega
   |some a=>cases e
 ·injection h1 with e1 e2 e3
  subst e1 e2 e3
  rcases Nat.lt_or_ge k l.length with hk0|hk0
  ·unfold sliced
   rw[if_neg (by omega),Option.map_some,add_pl,Nat.mul_one]
   refine .inr ⟨by rw[List.length_drop];omega,b,hb,⟨off+k,c-k,?_,by rw[List.length_drop];omega,fun j hj=>?_⟩,h4⟩
   ·rw[List.length_drop]
   ·rw[List.length_drop] at hj
    rw[show off+k+j=off+(k+j) by omega,h3 (k+j) (by omega)]
    simp[List.getD_eq_getElem?_getD,List.getElem?_drop]
  ·have e:k=l.length:=by omega
   subst e
   refine .inl ⟨by simp,_,_,by unfold sliced;rw[Nat.sub_self],fun e=>?_⟩
   split at e
   ·cases e
   ·cases e
theorem of_own {base n:Nat} (h:w.ownsRow base 3 1 v n (l.map (Value.int .i64))) (hn:n=l.length):OSl w v v.ownBlock.toList l:=by
 rcases Nat.eq_zero_or_pos n with h0|h0
 ·rw[h0] at hn
  have:l=[]:=List.eq_nil_of_length_eq_zero hn.symm
  subst this
  rcases h.2 with ⟨rfl,_⟩|⟨g,cap,cur,rfl,_⟩
  ·exact nil w _
  ·exact .inl ⟨rfl,_,cap,by rw[h0],fun e=>by cases e⟩
 ·obtain⟨g,c,rfl,h1,h2⟩:=own_form h h0
  refine .inr ⟨by omega,g,by simp[Value.ownBlock],ISl.of_own h hn⟩
end OSl
end Go.Proofs.YtcidjimefnhacaaGreatDoor
namespace Go.Proofs.YtcidjimefnhacaaGreatDoor
open Go.RowKit
open Go.Shelf
set_option maxHeartbeats 1000000 in
theorem oclone_at {w:World} {v:Value} {fs:List Nat} {l:List Int} (h:OSl w v fs l) (hl:l.length<=1000000):Calls Tryz.prog 26 #[v] w fun e w'=>
 ∃v',e=.returned v'/\w'.ownsRow w.heap.size 3 1 v' l.length (l.map (Value.int .i64))/\Only [] w w':=by
 rcases h with ⟨rfl,A,c,rfl,h⟩|⟨h0,b,hb,hi⟩
 ·cases A with
  |none=>
   have e:=h rfl
   subst e
   have hnil:=Lib.run_eql_slice_nil (P:=Tryz.prog) w 37 3 none 0 0 0 0 Tryz.underlying37
   go_enter Tryz.func26,Tryz.ntmps26
   go_wp2_with fail
   go_ret
   exact⟨_,rfl,World.ownsRow_nil _ _ _ _,Only.refl _ _⟩
  |some ad=>
   obtain⟨i0,hi,hz0,hz1,hz2⟩:=info_parts info_int
   have hnil:=Lib.run_eql_slice_nil (P:=Tryz.prog) w 37 3 (some ad) 0 c 0 0 Tryz.underlying37
   go_enter Tryz.func26,Tryz.ntmps26
   go_wp2_with (at_builtin;refine wpList_append_own _ rfl _ _ 37 rfl w.heap.size 3 i0 (.int .i64 0) 1 8 Tryz.underlying37 hi hz0 hz1 hz2 rfl (by decide) _ _ _ rfl (own0 w _) ad 0 c [] rfl rfl (fun j u hu=>by simp at hu) (fun u hu=>by simp at hu) (by unfold maxLen;omega) (by omega) (by simp) ?_;intro v1 w1 hown1 hg1 _)
   go_ret
   refine⟨_,rfl,by simpa using hown1,((Only.refl [] w).alloc _).grown hg1 (fun k hk=>.inr (own_base (own0 w 0) k hk))⟩
 ·obtain⟨ad,cap,rfl,h2,_,hr⟩:=hi.reads
  exact sclone_any w ad l.length cap l hr hl h0
theorem oclip_at {w:World} {v:Value} {fs:List Nat} {l:List Int} (h:OSl w v fs l):Calls Tryz.prog 140 #[v] w fun e w'=>
 w'=w/\∃A,e=.returned (.slice A l.length l.length)/\OSl w (.slice A l.length l.length) fs l:=by
 rcases h with ⟨rfl,A,c,rfl,h⟩|⟨h0,b,hb,⟨off,cap,rfl,h2,h3⟩,h4⟩
 ·cases A with
  |none=>
   go_enter Tryz.func140,Tryz.ntmps140
   go_wp2_with fail
   go_ret
   exact⟨rfl,_,rfl,OSl.nil _ _⟩
  |some ad=>
   go_enter Tryz.func140,Tryz.ntmps140
   go_wp2_with fail
   go_ret
   exact⟨rfl,_,rfl,.inl ⟨rfl,_,_,rfl,fun _=>rfl⟩⟩
 ·have hf:Hid (OSl w (.slice (some ⟨b,off,none⟩) l.length l.length) fs l):=.inr ⟨h0,b,hb,⟨off,l.length,rfl,Nat.le_refl _,h3⟩,h4⟩
  generalize l.length=n at *
  go_enter Tryz.func140,Tryz.ntmps140
  go_wp2_with fail
  go_ret
  exact⟨rfl,_,rfl,hf.out⟩
def renR:Shelf.Ren:=⟨fun _=>109,fun x=>if x=0 then 0 else if x=4 then 4 else if x=22 then 37 else 3,fun x=>x⟩
theorem laysR:SlLaysN.n35 Tryz.prog renR where
 mixed:=by kernel_rfl
 f35:=⟨ "slices.Reverse[[]int,int]",by decide,by kernel_rfl⟩
 t0:=by kernel_rfl
 a0:=fun _=>by kernel_rfl
 z0:=fun _=>by kernel_rfl
 v0:=fun _=>by kernel_rfl
 t3:=by kernel_rfl
 a3:=fun _=>by kernel_rfl
 z3:=fun _=>by kernel_rfl
 v3:=fun _=>by kernel_rfl
 t4:=by kernel_rfl
 a4:=fun _=>by kernel_rfl
 z4:=fun _=>by kernel_rfl
 v4:=fun _=>by kernel_rfl
 t22:=by kernel_rfl
 a22:=fun _=>by kernel_rfl
 z22:=fun _=>by kernel_rfl
 v22:=fun _=>by kernel_rfl
 t23:=by kernel_rfl
 a23:=fun _=>by kernel_rfl
 z23:=fun _=>by kernel_rfl
 v23:=fun _=>by kernel_rfl
theorem only_putRow {w:World} {g q:Nat} {d:Array Int}:Only [g] w (Sort.putRow (Value.int .i64) (Sort.ahead w q) g 0 d):=
 ⟨rfl,rfl,rfl,by simp[Sort.putRow,Sort.mapBlock,Sort.ahead],fun k hk hn=>by
  have:g≠k:=fun e=>hn (by simp[e])
  simp[Sort.putRow,Sort.mapBlock,Sort.ahead,Array.getElem?_modify,this]⟩
theorem oreverse_at {w:World} {v:Value} {base:Nat} {l:List Int} (h:w.ownsRow base 3 1 v l.length (l.map (Value.int .i64))):Calls Tryz.prog 109 #[v] w fun e w'=>
 e=.returned (.tuple #[])/\w'.ownsRow base 3 1 v l.length (l.reverse.map (Value.int .i64))/\Only v.ownBlock.toList w w':=by
 rcases h.2 with ⟨rfl,h0⟩|hx
 ·rw[List.eq_nil_of_length_eq_zero h0]
  refine(AnyG.slices_Reverse_int_empty laysR none 0 w).mono ?_
  rintro e w' ⟨rfl,rfl⟩
  exact⟨rfl,World.ownsRow_nil _ _ _ _,Only.refl _ _⟩
 ·have hv:v≠ .slice none 0 0:=by obtain⟨g,c,cur,rfl,_⟩:=hx;intro e;cases e
  obtain⟨g,cap,rfl,h1,h2,h3,h4,h5,hH⟩:=Lib.holds_of_ownsRow h hv
  refine(AnyG.slices_Reverse_int laysR g 0 cap l w hH (by unfold maxLen at h4;omega)).mono ?_
  rintro e w' ⟨rfl,q,rfl⟩
  have hy:l.reverse.length=l.length:=by simp
  have h6:=Lib.ownsRow_putRow (q:=q) (ys:=l.reverse) h hy (Nat.le_refl _)
  rw[List.take_of_length_le (Nat.le_of_eq hy)] at h6
  exact⟨rfl,h6,only_putRow⟩
end Go.Proofs.YtcidjimefnhacaaGreatDoor
