/- TopSchedules, a part of the proof: Ua, Ub, Uc, Ud. -/
import Derived.Test.YtcidjimefnhacaaGreatDoorM44
import Derived.Test.YtcidjimefnhacaaGreatDoorM18
set_option linter.unusedVariables false
set_option linter.unusedSimpArgs false
namespace Go.Proofs.YtcidjimefnhacaaGreatDoor
open Go.RowKit
def EvOwn (w:World) (v:Value) (L:List Ev):Prop:=w.ownsRow 3 68 9 v L.length (evCells L)
theorem EvOwn.form {w:World} {v:Value} {L:List Ev} (h:EvOwn w v L) {l:List Nat} {W:World} (ho:Only l w W) (hn:∀k,v.ownBlock=some k->k∉l):∃A c,v=.slice A L.length c/\L.length<=c/\∀i e,L[i]? =some e->∃g,A=some ⟨g,0,none⟩/\∀j u,e.cells[j]? =some u->W.cell? ⟨g,i*9+j,none⟩=some u:=by
 have h2:=own_only h ho hn
 rcases h2.2 with ⟨rfl,e⟩|⟨g,cap,cur,rfl,_,_,hc,_⟩
 ·refine⟨none,0,by rw[e],by omega,fun i x hx=>?_⟩
  have:=(List.getElem?_eq_some_iff.1 hx).1
  omega
 ·refine⟨_,cap,rfl,hc,fun i x hx=>⟨g,rfl,fun j u hu=>?_⟩⟩
  have hj:j<9:=(List.getElem?_eq_some_iff.1 hu).1
  exact ecells (own_mono h2 (Nat.zero_le _)) _ u ((evCells_at L i hx j hj).trans hu)
theorem failE_take {L:List Ev} {i:Nat} {e:Ev} (h:L[i]? =some e):failE (L.take (i+1))=(failE (L.take i)||(e.e&&(decide (e.o.k=0)&& !decide (e.re=0)))):=by
 unfold failE
 rw[List.take_add_one,h]
 simp
theorem failE_up {L:List Ev} {i:Nat} (h:failE (L.take i)=true):failE L=true:=by
 cases hf:failE L with
 |true=>rfl
 |false=>
  rw[<-List.take_append_drop i L] at hf
  rw[(failE_app hf).1] at h
  cases h
set_option maxRecDepth 100000 in
set_option maxHeartbeats 4000000 in
theorem full_at {P:Hp} {Q:RP} {pr:Nat->List Ac} {R:RS} {S:HS} {w W:World} {FP:List Nat} {bx:List (Nat×TypeId×Array Value)} (h:Ctx P S w FP (RunRec P Q pr R) bx W) (hn:R.ev.length<=1000):Grew Tryz.prog 10 #[.pointer (some ⟨Q.p,0,none⟩)] W (.bool (failE R.ev)):=by
 have hW3:3<=W.heap.size:=by
  obtain⟨⟨_,q⟩,q2,_⟩:=h
  exact Nat.le_trans q q2.size
 have CE:=Lib.hid (revents_at h hn)
 clear h
 generalize R.ev=L at *
 go_enter Tryz.func10,Tryz.ntmps10
 go_wp2_with fail
 refine CE.out.mono ?_
 rintro r W1 ⟨v,rfl,hown,ho⟩
 obtain⟨A,c,rfl,hc,hev⟩:=EvOwn.form (own_mono hown hW3) (Only.refl [] W1) (by simp)
 have HEV:=Lib.hid hev
 have HO:=Lib.hid ho
 generalize hLn:L.length=n at *
 have HLn:=Lib.hid hLn
 clear hown hev ho CE hLn
 go_wp2_with fail
 go_loopw[4] (fun t wr=>∃i:Nat,i<=n/\t=.int .i64 i/\wr=W1/\failE (L.take i)=false) (fun t _=>n-(intOf t).toNat)
 case atStart=>exact⟨0,Nat.zero_le _,rfl,rfl,by simp[failE]⟩
 case round=>
  obtain⟨i,hi,rfl,rfl,hf⟩:=hrel
  have HF:=Lib.hid hf
  clear hf
  rcases Nat.lt_or_ge i n with hlt|hge
  ·have hlt':(i:Int)<n:=by omega
   obtain⟨e,he⟩:∃e,L[i]? =some e:=⟨_,List.getElem?_eq_getElem (by rw[HLn.out];exact hlt)⟩
   obtain⟨g,rfl,hcl⟩:=HEV.out i e he
   have HT:=Lib.hid (failE_take he)
   obtain⟨et,ea,ee,⟨ek,es,eal,ead⟩,era,ere⟩:=e
   have e2:wr.cell? ⟨g,i*9+2,none⟩=some (.bool ee):=hcl 2 _ rfl
   have e3:wr.cell? ⟨g,i*9+3,none⟩=some (.int .i64 ek):=hcl 3 _ rfl
   have e8:wr.cell? ⟨g,i*9+8,none⟩=some (.int .i64 ere):=hcl 8 _ rfl
   clear he hcl
   have next:∀b:Bool,(ee&&(decide (ek=0)&& !decide (ere=0)))=b->Hid (failE (L.take (i+1))=b):=fun b hb=>by
    show _=_
    rw[HT.out,HF.out,Bool.false_or];exact hb
   have NX:=Lib.hid next
   clear next
   cases ee
   ·have hx:=NX.out false rfl
    go_wp2_with fail
    exact⟨⟨i+1,by omega,by go_num,trivial,hx.out⟩,by show n-((i:Int)+1).toNat<n-(i:Int).toNat;omega⟩
   ·by_cases hk:ek=0
    ·subst hk
     by_cases hr:ere=0
     ·subst hr
      have hx:=NX.out false rfl
      go_wp2_with fail
      exact⟨⟨i+1,by omega,by go_num,trivial,hx.out⟩,by show n-((i:Int)+1).toNat<n-(i:Int).toNat;omega⟩
     ·have hx:=NX.out true (by simp[hr])
      have hrb:(ere==0)=false:=beq_eq_false_iff_ne.2 hr
      have hup:Hid (failE L=true):=failE_up hx.out
      go_wp2_with fail
      go_ret
      rw[hup.out]
      exact⟨rfl,HO.out⟩
    ·have hx:=NX.out false (by simp[hk])
     have hkb:(ek==0)=false:=beq_eq_false_iff_ne.2 hk
     go_wp2_with fail
     exact⟨⟨i+1,by omega,by go_num,trivial,hx.out⟩,by show n-((i:Int)+1).toNat<n-(i:Int).toNat;omega⟩
  ·have hlt':¬((i:Int)<n):=by omega
   have e:Hid (failE L=false):=by
    show _=_
    rw[<-HF.out,List.take_of_length_le (by rw[HLn.out];exact hge)]
   go_wp2_with fail
   go_ret
   rw[e.out]
   exact⟨rfl,HO.out⟩
def tflat (l:List (Int×Int)):List Value:=l.flatMap (fun x=>[.int .i64 x.1,.int .i64 x.2])
theorem tflat_app (l m:List (Int×Int)):tflat (l++m)=tflat l++tflat m:=by unfold tflat;rw[List.flatMap_append]
theorem tflat_len (l:List (Int×Int)):(tflat l).length=l.length*2:=by
 induction l with
 |nil=>rfl
 |cons x l ih=>
  have:tflat (x::l)=[.int .i64 x.1,.int .i64 x.2]++tflat l:=rfl
  rw[this,List.length_append,ih]
  simp
  omega
theorem toldE_take {L:List Ev} {i:Nat} {e:Ev} {t:Nat} (h:L[i]? =some e):toldE (L.take (i+1)) t=toldE (L.take i) t++(if(e.e&&(decide (e.t=(t:Int))&&decide (e.o.k<0)))=true then [(e.re,e.ra)] else []):=by
 rw[List.take_add_one,h,toldE_app]
 congr 1
 unfold toldE
 simp only[Option.toList_some,List.filter_cons,List.filter_nil]
 split<;>rfl
theorem cells_new2 (w:World) (t:TypeId) (x0 x1:Value):∀j u,[x0,x1][j]? =some u->(w.alloc (.cells #[x0,x1] t)).cell? ((⟨w.heap.size,0,none⟩:Addr).add j)=some u:=by
 intro j u hj
 rw[Addr.add_lit,Nat.zero_add]
 exact(Blk.new w t _).cell_ j (by simpa using hj)
set_option maxRecDepth 100000 in
set_option maxHeartbeats 8000000 in
theorem told_at {P:Hp} {Q:RP} {pr:Nat->List Ac} {R:RS} {S:HS} {w W:World} {FP:List Nat} {bx:List (Nat×TypeId×Array Value)} (h:Ctx P S w FP (RunRec P Q pr R) bx W) (hn:R.ev.length<=1000) (t:Nat):Calls Tryz.prog 12 #[.pointer (some ⟨Q.p,0,none⟩),.int .i64 t] W fun e W'=>∃v,e=.returned v/\W'.ownsRow W.heap.size 3 1 v ((toldE R.ev t).length *2) (tflat (toldE R.ev t))/\Only [] W W':=by
 have hW3:3<=W.heap.size:=by
  obtain⟨⟨_,q⟩,q2,_⟩:=h
  exact Nat.le_trans q q2.size
 have CE:=Lib.hid (revents_at h hn)
 obtain⟨i0,hi,hz0,hz1,hz2⟩:=info_parts info_int
 clear h
 generalize R.ev=L at *
 go_enter Tryz.func12,Tryz.ntmps12
 go_wp2_with fail
 refine CE.out.mono ?_
 rintro r W1 ⟨v,rfl,hown,ho⟩
 have HE0:=Lib.hid hown
 have HLL:=Lib.hid hn
 have HO:=Lib.hid ho
 have hsz:=ho.size
 have hOB:Hid (∀k,v.ownBlock=some k->W.heap.size<=k/\k<W1.heap.size):=fun k hk=>hown.lt k hk
 obtain⟨A,c,rfl,hc,_⟩:=EvOwn.form (own_mono hown hW3) (Only.refl [] W1) (by simp)
 have HEV:Hid (∀l W',Only l W1 W'->(∀k,(Value.slice A L.length c).ownBlock=some k->k∉l)->∀i e,L[i]? =some e->∃g,A=some ⟨g,0,none⟩/\∀j u,e.cells[j]? =some u->W'.cell? ⟨g,i*9+j,none⟩=some u):=fun l W' ho' hn'=>by
  obtain⟨A',c',e,_,q⟩:=EvOwn.form (own_mono HE0.out hW3) ho' hn'
  injection e with e _ _
  subst e
  exact q
 generalize hLn:L.length=n at *
 have HLn:=Lib.hid hLn
 clear hown ho CE hLn
 go_wp2_with fail
 go_loopw[5,7] (fun t5 t7 wr=>∃(i:Nat),i<=n/\t7=.int .i64 i/\wr.ownsRow W1.heap.size 3 1 t5 ((toldE (L.take i) t).length *2) (tflat (toldE (L.take i) t))/\Only [] W1 wr) (fun _ t _=>n-(intOf t).toNat)
 case atStart=>exact⟨0,Nat.zero_le _,rfl,World.ownsRow_nil _ _ _ _,Only.refl _ _⟩
 case round=>
  obtain⟨i,hi',rfl,hrow,hoW⟩:=hrel
  have HROW:=Lib.hid hrow
  have HOW:=Lib.hid hoW
  have hszW:=hoW.size
  have htl:(toldE (L.take i) t).length<=i:=by
   unfold toldE
   rw[List.length_map]
   exact Nat.le_trans (List.length_filter_le _ _) (by rw[List.length_take];omega)
  clear hrow hoW
  rcases Nat.lt_or_ge i n with hlt|hge
  ·have hlt':(i:Int)<n:=by omega
   obtain⟨e,he⟩:∃e,L[i]? =some e:=⟨_,List.getElem?_eq_getElem (by rw[HLn.out];exact hlt)⟩
   obtain⟨g,rfl,hcl⟩:=HEV.out _ wr HOW.out (by simp) i e he
   obtain⟨g',hg',hcl2⟩:=HEV.out _ (wr.alloc (.cells #[.int .i64 e.re,.int .i64 e.ra] 3)) (HOW.out.alloc _) (by simp) i e he
   injection hg' with hg'
   injection hg' with hg'
   subst hg'
   have HT:=Lib.hid (toldE_take (t:=t) he)
   obtain⟨et,ea,ee,⟨ek,es,eal,ead⟩,era,ere⟩:=e
   have e0:wr.cell? ⟨g,i*9,none⟩=some (.int .i64 et):=hcl 0 _ rfl
   have e2:wr.cell? ⟨g,i*9+2,none⟩=some (.bool ee):=hcl 2 _ rfl
   have e3:wr.cell? ⟨g,i*9+3,none⟩=some (.int .i64 ek):=hcl 3 _ rfl
   have e7:wr.cell? ⟨g,i*9+7,none⟩=some (.int .i64 era):=hcl 7 _ rfl
   have e8:wr.cell? ⟨g,i*9+8,none⟩=some (.int .i64 ere):=hcl 8 _ rfl
   have f7:(wr.alloc (.cells #[.int .i64 ere,.int .i64 era] 3)).cell? ⟨g,i*9+7,none⟩=some (.int .i64 era):=hcl2 7 _ rfl
   have f8:(wr.alloc (.cells #[.int .i64 ere,.int .i64 era] 3)).cell? ⟨g,i*9+8,none⟩=some (.int .i64 ere):=hcl2 8 _ rfl
   clear he hcl hcl2
   have next:(ee&&(decide (et=(t:Int))&&decide (ek<0)))=false->Hid (wr.ownsRow W1.heap.size 3 1 u5 ((toldE (L.take (i+1)) t).length *2) (tflat (toldE (L.take (i+1)) t))):=fun hb=>by
    show World.ownsRow ..
    rw[HT.out]
    simp only[hb,Bool.false_eq_true,if_false,List.append_nil]
    exact HROW.out
   have NX:=Lib.hid next
   clear next
   cases ee
   ·have hx:=NX.out rfl
    go_wp2_with fail
    exact⟨⟨i+1,by omega,by go_num,hx.out,HOW.out⟩,by show n-((i:Int)+1).toNat<n-(i:Int).toNat;omega⟩
   ·by_cases hk:et=(t:Int)
    ·subst hk
     by_cases hr:ek<0
     ·have hdr:decide (ek<0)=true:=decide_eq_true hr
      go_upto_region 7 with fail
      have hIT:Hid (toldE (L.take (i+1)) t=toldE (L.take i) t++[(ere,era)]):=by
       show _=_
       rw[HT.out]
       simp[hr]
      have HO2:=Lib.hid ((Only.refl [] wr).drew.alloc (.cells #[.int .i64 ere,.int .i64 era] 3))
      have HR2:=Lib.hid (own_only HROW.out HO2.out (by simp))
      have HKL:=Lib.hid htl
      generalize hTL:(toldE (L.take i) t).length *2=tl at *
      have HTL:=Lib.hid hTL
      have htl2:tl<=2000:=by have:=HKL.out;have:=HLL.out;omega
      generalize hTC:tflat (toldE (L.take i) t)=tc at *
      have HTC:=Lib.hid hTC
      clear hTL hTC NX
      go_region_law (first
       |(go_loud (refine step_appO rfl (.tmp 39) (.tmp 52) W1.heap.size 37 3 i0 _ 1 8 Tryz.underlying37 hi hz0 hz1 hz2 rfl (by decide) rfl (B:=⟨wr.heap.size,0,none⟩) (m:=2) (cB:=2) (news:=[.int .i64 ere,.int .i64 era]) rfl rfl HR2.out rfl (cells_new2 wr.drew _ _ _) (by simp[Value.oneCell']) (by unfold maxLen;omega) (by omega) (by simp;omega) ?_);intro v' w' hown hg hat;obtain⟨A',c',rfl,_⟩:=own_slice hown))
      all_goals
       have hrel2:Hid (w'.ownsRow W1.heap.size 3 1 (.slice A' (tl+2) c') ((toldE (L.take (i+1)) t).length *2) (tflat (toldE (L.take (i+1)) t))):=by
        show World.ownsRow ..
        rw[hIT.out,tflat_app,List.length_append,Nat.add_mul,HTL.out,HTC.out]
        exact hown
       have hol2:=Lib.hid ((HOW.out.trans HO2.out).grown hg (fun k hk=>.inr (own_base HR2.out k hk)))
       go_wp2_with fail
       exact⟨⟨i+1,by omega,by go_num,hrel2.out,hol2.out⟩,by show n-((i:Int)+1).toNat<n-(i:Int).toNat;omega⟩
     ·have hx:=NX.out (by simp[hr])
      have hdr:decide (ek<0)=false:=decide_eq_false hr
      go_wp2_with fail
      exact⟨⟨i+1,by omega,by go_num,hx.out,HOW.out⟩,by show n-((i:Int)+1).toNat<n-(i:Int).toNat;omega⟩
    ·have hx:=NX.out (by simp[hk])
     have hkb:(et==(t:Int))=false:=beq_eq_false_iff_ne.2 hk
     go_wp2_with fail
     exact⟨⟨i+1,by omega,by go_num,hx.out,HOW.out⟩,by show n-((i:Int)+1).toNat<n-(i:Int).toNat;omega⟩
  ·have hlt':¬((i:Int)<n):=by omega
   have e:Hid (L.take i=L):=List.take_of_length_le (by rw[HLn.out];exact hge)
   go_wp2_with fail
   go_ret
   refine⟨_,rfl,?_,HO.out.trans HOW.out⟩
   rw[<-e.out]
   exact own_mono HROW.out hsz
theorem own_ints {w:World} {v:Value} {n base:Nat} {l:List Int} (hn:l.length=n) (h:w.ownsRow base 3 1 v n (l.map (Value.int .i64))):∃A c,v=.slice A n c/\n<=c/\∀W,Only [] w W->∀i x,l[i]? =some x->∃g,A=some ⟨g,0,none⟩/\W.cell? ⟨g,i,none⟩=some (.int .i64 x)/\W.frozen? ⟨g,i,none⟩=false:=by
 rcases h.2 with ⟨rfl,e⟩|⟨g,cap,cur,rfl,_,hg,hc,h4,h5,h6⟩
 ·refine⟨none,0,by rw[e],by omega,fun W _ i x hx=>?_⟩
  have:=(List.getElem?_eq_some_iff.1 hx).1
  omega
 ·refine⟨_,cap,rfl,hc,fun W ho i x hx=>⟨g,rfl,?_⟩⟩
  have hB:Blk w g 3 cur:=hg
  have hi:=(List.getElem?_eq_some_iff.1 hx).1
  refine⟨(hB.only ho (by simp)).cell_ i ?_,(hB.only ho (by simp)).frozen i⟩
  rw[<-Array.getElem?_toList]
  have:(List.take (n*1) cur.toList)[i]? =some (.int .i64 x):=by rw[h6,List.getElem?_map,hx];rfl
  rwa[List.getElem?_take,if_pos (by omega)] at this
set_option maxRecDepth 100000 in
set_option maxHeartbeats 4000000 in
theorem ints_at {W:World} {va vb:Value} {ba bb:Nat} {la lb:List Int} (ha:W.ownsRow ba 3 1 va la.length (la.map (Value.int .i64))) (hb:W.ownsRow bb 3 1 vb lb.length (lb.map (Value.int .i64))) (hl:la.length<=100000):Grew Tryz.prog 11 #[va,vb] W (.bool (decide (la=lb))):=by
 obtain⟨A,ca,rfl,hca,hA⟩:=own_ints rfl ha
 obtain⟨B,cb,rfl,hcb,hB⟩:=own_ints rfl hb
 have HA:=Lib.hid hA
 have HB:=Lib.hid hB
 clear ha hb hA hB
 by_cases hlen:la.length=lb.length
 ·rw[<-hlen] at hcb ⊢
  have hneq:(((la.length:Nat):Int)==((la.length:Nat):Int))=true:=by simp
  have HLEN:=Lib.hid hlen
  clear hlen
  generalize hn:la.length=n at *
  have HN:=Lib.hid hn
  clear hn hneq
  go_enter Tryz.func11,Tryz.ntmps11
  go_wp2_with fail
  go_loopw[5] (fun t wr=>∃i:Nat,i<=n/\t=.int .i64 i/\Only [] W wr/\la.take i=lb.take i) (fun t _=>n-(intOf t).toNat)
  case atStart=>exact⟨0,Nat.zero_le _,rfl,Only.refl _ _,by simp⟩
  case round=>
   obtain⟨i,hi,rfl,ho,hf⟩:=hrel
   have HF:=Lib.hid hf
   have HO:=Lib.hid ho
   clear hf ho
   rcases Nat.lt_or_ge i n with hlt|hge
   ·have hlt':(i:Int)<n:=by omega
    obtain⟨x,hx⟩:∃x,la[i]? =some x:=⟨_,List.getElem?_eq_getElem (by rw[HN.out];exact hlt)⟩
    obtain⟨y,hy⟩:∃y,lb[i]? =some y:=⟨_,List.getElem?_eq_getElem (by rw[<-HLEN.out];exact hlt)⟩
    obtain⟨ga,rfl,x0,_⟩:=HA.out wr HO.out i x hx
    obtain⟨gb,rfl,y0,_⟩:=HB.out wr HO.out i y hy
    have HX:=Lib.hid hx
    have HY:=Lib.hid hy
    clear hx hy
    by_cases hxy:x=y
    ·subst hxy
     have hx:Hid (la.take (i+1)=lb.take (i+1)):=by
      show _=_
      rw[List.take_add_one,List.take_add_one,HX.out,HY.out,HF.out]
     go_upto_region 6 with fail
     go_quiet (fail)
     go_wp2_with fail
     go_roundw
     case rel=>exact⟨i+1,by omega,by go_num,HO.out.drewN _,hx.out⟩
     case measure=>
      show n-((i:Int)+1).toNat<n-(i:Int).toNat
      omega
    ·have hxb:(x==y)=false:=beq_eq_false_iff_ne.2 hxy
     have hne:Hid (decide (la=lb)=false):=decide_eq_false (fun e=>by
      have h1:=HX.out
      rw[e,HY.out] at h1
      exact hxy (Option.some.inj h1).symm)
     go_upto_region 6 with fail
     go_quiet (fail)
     go_wp2_with fail
     go_ret
     rw[hne.out]
     exact⟨rfl,HO.out.drewN _⟩
   ·have hlt':¬((i:Int)<n):=by omega
    have e:Hid (decide (la=lb)=true):=decide_eq_true (by
     have:=HF.out
     rwa[List.take_of_length_le (by rw[HN.out];exact hge),List.take_of_length_le (by rw[<-HLEN.out];exact hge)] at this)
    go_wp2_with fail
    go_ret
    rw[e.out]
    exact⟨rfl,HO.out⟩
 ·have hne:Hid (decide (la=lb)=false):=decide_eq_false (fun e=>hlen (by rw[e]))
  have hb1:(((la.length:Nat):Int)==((lb.length:Nat):Int))=false:=beq_eq_false_iff_ne.2 (by omega)
  have hb2:(la.length==lb.length)=false:=beq_eq_false_iff_ne.2 hlen
  generalize la.length=n at *
  generalize lb.length=m at *
  go_enter Tryz.func11,Tryz.ntmps11
  go_wp2_with fail
  go_ret
  rw[hne.out]
  exact⟨rfl,Only.refl _ _⟩
def slL (R:RS):Nat->List Int
 |0=>[]
 |k+1=>slL R k++[R.sl k]
theorem slL_len (R:RS) (k:Nat):(slL R k).length=k:=by
 induction k with
 |zero=>rfl
 |succ k ih=>rw[slL,List.length_append,ih];rfl
theorem slL_at (R:RS) (k i:Nat) (hi:i<k):(slL R k)[i]? =some (R.sl i):=by
 induction k with
 |zero=>omega
 |succ k ih=>
  rw[slL]
  rcases Nat.lt_or_ge i k with h|h
  ·rw[List.getElem?_append_left (by rw[slL_len];exact h)];exact ih h
  ·obtain rfl:i=k:=by omega
   rw[List.getElem?_append_right (by rw[slL_len];exact Nat.le_refl _),slL_len];simp
theorem set_same {α:Type} {l:List α} {i:Nat} {u:α} (h:l[i]? =some u):l.set i u=l:=by
 induction l generalizing i with
 |nil=>rfl
 |cons x l ih=>
  cases i with
  |zero=>simp at h;subst h;rfl
  |succ i=>rw[List.set_cons_succ,ih (by simpa using h)]
set_option maxRecDepth 100000 in
set_option maxHeartbeats 4000000 in
theorem rslots_at {P:Hp} {Q:RP} {pr:Nat->List Ac} {R:RS} {S:HS} {w W:World} {FP:List Nat} {bx:List (Nat×TypeId×Array Value)} (h:Ctx P S w FP (RunRec P Q pr R) bx W) (hge:∀s, -1<=R.sl s):Calls Tryz.prog 13 #[.pointer (some ⟨Q.p,0,none⟩)] W fun e W'=>∃v,e=.returned v/\W'.ownsRow W.heap.size 3 1 v 16 ((slL R 16).map (Value.int .i64))/\Only [] W W':=by
 obtain⟨_,_,_,_,hr,_⟩:=h.rcells
 have CM:=Lib.hid (rmade_at h)
 have hsl:OSl W (.slice (some ⟨Q.p,2,none⟩) 16 16) [Q.p] (slL R 16):=by
  refine .inr ⟨by rw[slL_len];decide,Q.p,by simp,⟨2,16,by rw[slL_len],by rw[slL_len];exact Nat.le_refl _,fun i hi=>?_⟩,World.block_lt_of_cell? W _ hr.c0⟩
  rw[slL_len] at hi
  rw[List.getD_eq_getElem?_getD,slL_at R 16 i hi]
  exact hr.sl i hi
 have CC:=Lib.hid (oclone_at hsl (by rw[slL_len];decide))
 clear h hr hsl
 go_enter Tryz.func13,Tryz.ntmps13
 go_wp2_with (first|(go_at_call 25;with_reducible refine Still.use CM.out ?_))
 refine CC.out.mono ?_
 rintro r W1 ⟨v,rfl,hown,ho⟩
 rw[slL_len] at hown
 have HOWN:=Lib.hid hown
 have HO:=Lib.hid ho
 have hsz:=ho.size
 obtain⟨g,c,rfl,hgb,hgl⟩:=own_form hown (by decide)
 have hc16:16<=c:=by
  rcases hown.2 with ⟨_,e⟩|⟨g',cap,cur,hv,_,_,hc,_⟩
  ·cases e
  ·injection hv with _ _ e;omega
 clear hown ho CC
 go_wp2_with fail
 go_loopw[16] (fun t wr=>∃i:Nat,i<=16/\t=.int .i64 i/\wr.ownsRow W.heap.size 3 1 (.slice (some ⟨g,0,none⟩) 16 c) 16 ((slL R 16).map (Value.int .i64))/\Only [] W wr) (fun t _=>16-(intOf t).toNat)
 case atStart=>exact⟨0,Nat.zero_le _,rfl,HOWN.out,HO.out⟩
 case round=>
  obtain⟨i,hi,rfl,hrow,hoW⟩:=hrel
  have HR:=Lib.hid hrow
  have HOW:=Lib.hid hoW
  clear hrow hoW
  rcases Nat.lt_or_ge i 16 with hlt|hge2
  ·have hlt':(i:Int)<16:=by omega
   obtain⟨_,_,e,_,hcells⟩:=own_ints (slL_len R 16) HR.out
   obtain⟨g',e2,x0,f0⟩:=hcells wr (Only.refl _ _) i _ (slL_at R 16 i hlt)
   injection e with e _ _
   rw[<-e] at e2
   injection e2 with e2
   injection e2 with e2
   subst e2
   have hge':=hge i
   have hxs:((slL R 16).map (Value.int .i64))[i]? =some (.int .i64 (R.sl i)):=by rw[List.getElem?_map,slL_at R 16 i hlt];rfl
   have HXS:=Lib.hid hxs
   clear hxs
   generalize R.sl i=x at *
   clear hcells e
   go_wp2_with fail
   have hm:max x (-1)=x:=by omega
   rw[hm]
   refine⟨⟨i+1,by omega,by go_num,?_,HOW.out.setCell (p:=⟨g,i,none⟩) (.inr hgb) _⟩,by show 16-((i:Int)+1).toNat<16-(i:Int).toNat;omega⟩
   have:=own_set HR.out i (.int .i64 x)
   rwa[set_same HXS.out] at this
  ·have hlt':¬((i:Int)<16):=by omega
   go_wp2_with fail
   go_ret
   exact⟨_,rfl,HR.out,HOW.out⟩
def waitL (P:Hp) (pr:Nat->List Ac) (R:RS):Nat->List Int
 |0=>[]
 |k+1=>if R.bg k<(pr k).length then waitL P pr R k++[(k:Int)] else waitL P pr R k
theorem waitL_le (P:Hp) (pr:Nat->List Ac) (R:RS) (k:Nat):(waitL P pr R k).length<=k:=by
 induction k with
 |zero=>exact Nat.le_refl _
 |succ k ih=>
  rw[waitL]
  split
  ·rw[List.length_append];simp;omega
  ·omega
set_option maxRecDepth 100000 in
set_option maxHeartbeats 8000000 in
theorem rwaiting_at {P:Hp} {Q:RP} {pr:Nat->List Ac} (F:Fx P pr) {R:RS} {S:HS} {w W:World} {FP:List Nat} {bx:List (Nat×TypeId×Array Value)} (h:Ctx P S w FP (RunRec P Q pr R) bx W) (hE:Ended P pr S R):Calls Tryz.prog 14 #[.pointer (some ⟨Q.p,0,none⟩)] W fun e W'=>∃v,e=.returned v/\W'.ownsRow W.heap.size 3 1 v (waitL P pr R P.nt).length ((waitL P pr R P.nt).map (Value.int .i64))/\Only [] W W':=by
 have FR:=fun R=>RunRec.framed P Q pr R
 obtain⟨_,_,_,_,hr,_,hcp⟩:=h.rcells
 have z1:=hr.c1
 have CM:=Lib.hid (rmade_at h)
 have HC:=Lib.hid h
 have h3:=F.nt
 have HE:=Lib.hid hE
 obtain⟨i0,hi,hz0,hz1,hz2⟩:=info_parts info_int
 clear h hr hE
 go_enter Tryz.func14,Tryz.ntmps14
 go_wp2_with (first|(go_at_call 25;with_reducible refine Still.use CM.out ?_))
 go_loopw[3,15] (fun t3 t15 wr=>∃i:Nat,i<=P.nt/\t15=.int .i64 i/\wr.ownsRow W.heap.size 3 1 t3 (waitL P pr R i).length ((waitL P pr R i).map (Value.int .i64))/\Only [] W wr) (fun _ t _=>P.nt-(intOf t).toNat)
 case atStart=>exact⟨0,Nat.zero_le _,rfl,World.ownsRow_nil _ _ _ _,Only.refl _ _⟩
 case round=>
  obtain⟨i,hi',rfl,hrow,ho⟩:=hrel
  have HROW:=Lib.hid hrow
  have HO:=Lib.hid ho
  have hlen:=waitL_le P pr R i
  clear hrow ho
  rcases Nat.lt_or_ge i P.nt with hlt|hge
  ·have hlt':(i:Int)<P.nt:=by omega
   have hcW:=HC.out.still (FR R) HO.out
   have HCW:=Lib.hid hcW
   have HLT:=Lib.hid hlt
   have hlp:=(F.ok i hlt).1
   have HEI:=Lib.hid (HE.out i hlt)
   clear hcW
   cases hat:(pr i)[R.bg i]? with
   |none=>
    have CN:=Lib.hid (rnext_none HCW.out hlt (by omega) hlp hat)
    have hx:Hid (waitL P pr R (i+1)=waitL P pr R i):=by
     show _=_
     rw[waitL,if_neg (by have:=List.getElem?_eq_none_iff.1 hat;omega)]
    go_wp2_with fail
    refine Grew.use CN.out (fun W2 ho2=>?_)
    have HO2:=Lib.hid (ho2.alloc (.cells #[.int .i64 0,.int .i64 0,.int .i64 0,.int .i64 0,.int .i64 0,.int .i64 0] 50))
    go_wp2_with fail
    refine⟨⟨i+1,by omega,by go_num,?_,HO.out.trans HO2.out⟩,by show P.nt-((i:Int)+1).toNat<P.nt-(i:Int).toNat;omega⟩
    rw[hx.out]
    exact own_only HROW.out HO2.out (by simp)
   |some a=>
    have CN:=Lib.hid (rnext_some HCW.out hlt (by omega) hlp hat)
    have hx:Hid (waitL P pr R (i+1)=waitL P pr R i++[(i:Int)]):=by
     show _=_
     rw[waitL,if_pos (List.getElem?_eq_some_iff.1 hat).1]
    go_wp2_with fail
    refine Grew.use CN.out (fun W2 ho2=>?_)
    unfold Ac.val
    have hc5:=(HCW.out.still (FR _) ho2).push (FR _) #[.int .i64 a.k,.int .i64 a.s,.int .i64 a.z,.int .i64 a.al,.int .i64 a.w,.int .i64 a.v] 50
    have HO2:=Lib.hid (ho2.alloc (.cells #[.int .i64 a.k,.int .i64 a.s,.int .i64 a.z,.int .i64 a.al,.int .i64 a.w,.int .i64 a.v] 50))
    obtain⟨_,_,_,_,hr5,_⟩:=hc5.rcells
    have z0:=hr5.c0
    have CP:Grew Tryz.prog 28 #[.pointer (some ⟨P.h,0,none⟩),.int .i64 i] (W2.alloc (.cells #[.int .i64 a.k,.int .i64 a.s,.int .i64 a.z,.int .i64 a.al,.int .i64 a.w,.int .i64 a.v] 50)) (S.ph i).nm:=by
     obtain⟨_,_,⟨FPc,fs,hs,_⟩,_⟩:=hc5
     exact hPhase_at hs HLT.out
    rw[HEI.out.1] at CP
    unfold Ph.nm at CP
    have HCP:=Lib.hid CP
    have HC5:=Lib.hid hc5
    have HAT:=Lib.hid hat
    clear CP hc5 hr5 hat CN
    go_wp2_with fail
    refine Grew.use HCP.out (fun W3 ho3=>?_)
    have hc6:=HC5.out.still (FR _) ho3
    have HO3:=Lib.hid (HO2.out.trans ho3)
    have y0:=(bxCell hc6 (mcs ..) 0 rfl).1
    have y1:=(bxCell hc6 (mcs ..) 1 rfl).1
    have y2:=(bxCell hc6 (mcs ..) 2 rfl).1
    have y3:=(bxCell hc6 (mcs ..) 3 rfl).1
    have y4:=(bxCell hc6 (mcs ..) 4 rfl).1
    have y5:=(bxCell hc6 (mcs ..) 5 rfl).1
    have CR:=rready_at hc6 (by omega) (F.ok.at_ HLT.out HAT.out)
    rw[HEI.out.2 a HAT.out] at CR
    unfold Ac.val at CR
    have HCR:=Lib.hid CR
    clear CR hc6 z0
    go_wp2_with fail
    refine Grew.use HCR.out (fun W4 ho4=>?_)
    have HO4:=Lib.hid (HO3.out.trans ho4)
    have HR4:=Lib.hid (own_only HROW.out HO4.out (by simp))
    have hbs:=HO.out.size
    have hbs2:=HO4.out.size
    clear y0 y1 y2 y3 y4 y5
    generalize hwl:(waitL P pr R i).length=wl at *
    have HWL:=Lib.hid hwl
    clear hwl
    go_wp2_with (at_builtin;refine wpList_append_own _ rfl _ _ 37 rfl W.heap.size 3 i0 (.int .i64 0) 1 8 Tryz.underlying37 hi hz0 hz1 hz2 rfl (by decide) _ _ _ rfl (own_only HR4.out ((Only.refl [] W4).alloc _) (by simp)) ⟨W4.heap.size,0,none⟩ 1 1 [.int .i64 i] rfl rfl (cell_new1 W4 _ _) (by simp[Value.oneCell']) (by unfold maxLen;omega) (by omega) (by simp;omega) ?_;intro v1 w1 hown1 hg1 _)
    refine⟨⟨i+1,by omega,by go_num,?_,((HO.out.trans HO4.out).alloc _).grown hg1 (fun k hk=>.inr (own_base HR4.out k hk))⟩,by show P.nt-((i:Int)+1).toNat<P.nt-(i:Int).toNat;omega⟩
    rw[hx.out,List.length_append,List.map_append,HWL.out]
    exact hown1
  ·have hlt':¬((i:Int)<P.nt):=by omega
   have e:Hid (P.nt=i):=by show _=_;omega
   go_wp2_with fail
   go_ret
   rw[e.out]
   exact⟨_,rfl,HROW.out,HO.out⟩
set_option maxRecDepth 100000 in
set_option maxHeartbeats 4000000 in
theorem valid_at {a:Ac} {t:Nat} (ha:a.Ok t) (ht:t<3) (W:World):Grew Tryz.prog 37 #[a.val] W (.bool true):=by
 obtain⟨ak,a_s,az,aal,aw,av⟩:=a
 obtain⟨hk0,hk4⟩:=ha.k
 obtain⟨hs1,hs2⟩:=ha.s
 obtain⟨hw0,hw2⟩:=ha.w
 have hz:=ha.z
 have hon:=Lib.hid ((Only.refl [] W).alloc (.cells #[.int .i64 ak,.int .i64 a_s,.int .i64 az,.int .i64 aal,.int .i64 aw,.int .i64 av] 50))
 dsimp only at hk0 hk4 hs1 hs2 hw0 hw2 hz
 clear ha
 unfold Ac.val
 dsimp only
 have d1:decide (a_s<0)=false:=decide_eq_false (by omega)
 have d2:decide (a_s≥16)=false:=decide_eq_false (by omega)
 have d2':decide (16<=a_s)=false:=decide_eq_false (by omega)
 have d3:decide (aw≥0)=true:=decide_eq_true (by omega)
 have d4:decide (aw<=16384)=true:=decide_eq_true (by omega)
 rcases (show ak=0\/ak=1\/ak=2\/ak=3\/ak=4 by omega) with rfl|rfl|rfl|rfl|rfl
 ·obtain⟨z1,z2,rfl⟩:=hz rfl
  have d5:decide (az≥1)=true:=decide_eq_true (by omega)
  have d6:decide (az<=16384)=true:=decide_eq_true (by omega)
  go_enter Tryz.func37,Tryz.ntmps37
  go_wp2_with fail
  go_ret
  exact⟨rfl,hon.out⟩
 all_goals
  clear hz
  go_enter Tryz.func37,Tryz.ntmps37
  go_wp2_with fail
  go_ret
  exact⟨rfl,hon.out⟩
theorem invalid_at {a:Ac} {t:Nat} (ha:a.Ok t) (ht:t<3) (W:World):Grew Tryz.prog 36 #[a.val] W (.bool false):=by
 have hon:=Lib.hid ((Only.refl [] W).alloc (.cells #[.int .i64 a.k,.int .i64 a.s,.int .i64 a.z,.int .i64 a.al,.int .i64 a.w,.int .i64 a.v] 50))
 have CV:=Lib.hid (valid_at ha ht (W.alloc (.cells #[.int .i64 a.k,.int .i64 a.s,.int .i64 a.z,.int .i64 a.al,.int .i64 a.w,.int .i64 a.v] 50)))
 unfold Ac.val at CV ⊢
 go_enter Tryz.func36,Tryz.ntmps36
 go_wp2_with fail
 refine Grew.use CV.out (fun W2 ho=>?_)
 go_wp2_with fail
 go_ret
 exact⟨rfl,hon.out.trans ho⟩
theorem ActsAt.at_ {w:World} {v:Value} {l:List Ac} {fs:List Nat} (h:ActsAt w v l fs):∃A c,v=.slice A l.length c/\l.length<=c/\∀W,Only [] w W->∀i a,l[i]? =some a->∃g off,A=some ⟨g,off,none⟩/\∀j u,a.cells[j]? =some u->W.cell? ⟨g,off+i*6+j,none⟩=some u:=by
 obtain⟨A,c,h1,h2,h3⟩:=h
 refine⟨A,c,h1,h2,fun W ho i a ha=>?_⟩
 have hl:i<l.length:=(List.getElem?_eq_some_iff.1 ha).1
 obtain⟨g,off,q1,q2,q3,q4⟩:=h3 (by omega)
 exact⟨g,off,q1,fun j u hu=>(ho.cell (p:=⟨g,off+i*6+j,none⟩) q3 (by simp)).trans (q4 i a ha j u hu)⟩
set_option maxRecDepth 100000 in
set_option maxHeartbeats 4000000 in
theorem indexF_at {w:World} {v:Value} {l:List Ac} {fs:List Nat} (h:ActsAt w v l fs) {t:Nat} (ht:t<3) (hok:∀a∈l,a.Ok t) (hl:l.length<=32):Grew Tryz.prog 55 #[v,.func (.func 36) #[] #[]] w (.int .i64 (-1)):=by
 obtain⟨A,c,rfl,hc,hcl⟩:=h.at_
 have HCL:=Lib.hid hcl
 have HOK:=Lib.hid hok
 clear h hcl hok
 generalize hn:l.length=n at *
 have HN:=Lib.hid hn
 clear hn
 go_enter Tryz.func55,Tryz.ntmps55
 go_wp2_with fail
 go_loopw[8] (fun t wr=>∃i:Nat,i<=n/\t=.int .i64 i/\Only [] w wr) (fun t _=>n-(intOf t).toNat)
 case atStart=>exact⟨0,Nat.zero_le _,rfl,Only.refl _ _⟩
 case round=>
  obtain⟨i,hi,rfl,ho⟩:=hrel
  have HO:=Lib.hid ho
  clear ho
  rcases Nat.lt_or_ge i n with hlt|hge
  ·have hlt':(i:Int)<n:=by omega
   obtain⟨a,ha⟩:∃a,l[i]? =some a:=⟨_,List.getElem?_eq_getElem (by rw[HN.out];exact hlt)⟩
   obtain⟨g,off,rfl,hcs⟩:=HCL.out wr HO.out i a ha
   have y0:=hcs 0 _ rfl
   rw[Nat.add_zero] at y0
   have y1:=hcs 1 _ rfl
   have y2:=hcs 2 _ rfl
   have y3:=hcs 3 _ rfl
   have y4:=hcs 4 _ rfl
   have y5:=hcs 5 _ rfl
   have CV:=Lib.hid (invalid_at (HOK.out a (List.mem_of_getElem? ha)) ht wr)
   unfold Ac.val at CV
   clear ha hcs
   go_wp2_with fail
   refine Grew.use CV.out (fun W2 ho2=>?_)
   go_wp2_with fail
   go_roundw
   case rel=>exact⟨i+1,by omega,by go_num,HO.out.trans ho2⟩
   case measure=>
    show n-((i:Int)+1).toNat<n-(i:Int).toNat
    omega
  ·have hlt':¬((i:Int)<n):=by omega
   go_wp2_with fail
   go_ret
   exact⟨rfl,HO.out⟩
theorem containsF_at {w:World} {v:Value} {l:List Ac} {fs:List Nat} (h:ActsAt w v l fs) {t:Nat} (ht:t<3) (hok:∀a∈l,a.Ok t) (hl:l.length<=32):Grew Tryz.prog 35 #[v,.func (.func 36) #[] #[]] w (.bool false):=by
 have CI:=Lib.hid (indexF_at h ht hok hl)
 go_enter Tryz.func35,Tryz.ntmps35
 go_wp2_with fail
 refine Grew.use CI.out (fun W2 ho2=>?_)
 go_wp2_with fail
 go_ret
 exact⟨rfl,ho2⟩
theorem info_act:(Tryz.prog.info? 50).map (fun i=>(i.zero,i.size,i.bytes))=some (some (.agg #[.int .i64 0,.int .i64 0,.int .i64 0,.int .i64 0,.int .i64 0,.int .i64 0]),6,48):=by kernel_rfl
def acCells (L:List Ac):List Value:=L.flatMap Ac.cells
theorem acCells_app (L M:List Ac):acCells (L++M)=acCells L++acCells M:=by simp[acCells]
theorem acCells_one (e:Ac):acCells [e]=e.cells:=by simp[acCells]
theorem acCells_len (L:List Ac):(acCells L).length=L.length*6:=by
 induction L with
 |nil=>rfl
 |cons x l ih=>
  have:acCells (x::l)=x.cells++acCells l:=rfl
  rw[this,List.length_append,ih]
  simp[Ac.cells]
  omega
theorem acCells_at (L:List Ac) (i:Nat) {e:Ac} (h:L[i]? =some e) (j:Nat) (hj:j<6):(acCells L)[i*6+j]? =e.cells[j]? :=by
 induction L generalizing i with
 |nil=>simp at h
 |cons x l ih=>
  have hx:acCells (x::l)=x.cells++acCells l:=rfl
  have hl:x.cells.length=6:=rfl
  rw[hx]
  cases i with
  |zero=>
   simp at h
   subst h
   rw[List.getElem?_append_left (by omega),Nat.zero_mul,Nat.zero_add]
  |succ i=>
   rw[List.getElem?_append_right (by omega),hl]
   have:=ih i (by simpa using h)
   rw[<-this]
   congr 1
   omega
theorem acone (l:List Ac):∀u∈acCells l,u.oneCell'=true:=by
 intro u hu
 obtain⟨c,_,hc⟩:=List.mem_flatMap.1 hu
 unfold Ac.cells at hc
 simp at hc
 rcases hc with rfl|rfl|rfl|rfl|rfl|rfl<;>rfl
theorem ActsAt.of_own {w:World} {v:Value} {l:List Ac} {base:Nat} (h:w.ownsRow base 50 6 v l.length (acCells l)):ActsAt w v l v.ownBlock.toList:=by
 rcases h.2 with ⟨rfl,e⟩|⟨g,cap,cur,rfl,_,hg,hc,_,h5,h6⟩
 ·exact⟨none,0,by rw[e],by omega,fun h0=>by omega⟩
 ·refine⟨_,cap,rfl,hc,fun h0=>⟨g,0,rfl,by simp[Value.ownBlock],(Array.getElem?_eq_some_iff.1 hg).1,fun i a ha j u hu=>?_⟩⟩
  have hB:Blk w g 50 cur:=hg
  have hi:=(List.getElem?_eq_some_iff.1 ha).1
  have hj:j<6:=(List.getElem?_eq_some_iff.1 hu).1
  refine hB.cell_ _ ?_
  rw[<-hu,<-acCells_at l i ha j hj,<-h6,List.getElem?_take,if_pos (by omega),Array.getElem?_toList,Nat.zero_add]
theorem own0_6 (w:World):(w.alloc (.cells #[] 50)).ownsRow w.heap.size 50 6 (.slice (some ⟨w.heap.size,0,none⟩) 0 0) 0 []:=World.ownsRow_lit w #[] 0 (Nat.le_refl _) (Nat.zero_le _) rfl
set_option maxHeartbeats 1000000 in
theorem aclone_at {w:World} {v:Value} {l:List Ac} {fs:List Nat} (h:ActsAt w v l fs) (hv:l.length=0->v=.slice none 0 0) (hn:l.length<=32):Calls Tryz.prog 38 #[v] w fun e w'=>
 ∃v',e=.returned v'/\w'.ownsRow w.heap.size 50 6 v' l.length (acCells l)/\Only [] w w':=by
 obtain⟨i0,hi,hz0,hz1,hz2⟩:=info_parts info_act
 rcases Nat.eq_zero_or_pos l.length with h0|h0
 ·have hL:l=[]:=List.length_eq_zero_iff.1 h0
  subst hL
  obtain rfl:=hv rfl
  have hnil:=Lib.run_eql_slice_nil (P:=Tryz.prog) w 31 50 none 0 0 0 0 Tryz.underlying31
  clear h hv
  go_enter Tryz.func38,Tryz.ntmps38
  go_wp2_with fail
  go_ret
  exact⟨_,rfl,World.ownsRow_nil _ _ _ _,Only.refl _ _⟩
 ·obtain⟨A,c,h1,h2,h3⟩:=h
  obtain⟨g,off,rfl,_,hgl,hcl⟩:=h3 h0
  subst h1
  have hnil:=Lib.run_eql_slice_nil (P:=Tryz.prog) w 31 50 (some ⟨g,off,none⟩) l.length c 0 0 Tryz.underlying31
  have HC:Hid (∀j (u:Value),(acCells l)[j]? =some u->(w.alloc (.cells #[] 50)).cell? ((⟨g,off,none⟩:Addr).add j)=some u):=fun j u hu=>by
   rw[add_pl]
   have hj:j<l.length*6:=by have:=(List.getElem?_eq_some_iff.1 hu).1;rwa[acCells_len] at this
   have hk:l[j/6]? =some l[j/6]:=List.getElem?_eq_getElem (by omega)
   have e:=acCells_at l (j/6) hk (j%6) (by omega)
   rw[show j/6*6+j%6=j by omega,hu] at e
   have:=hcl (j/6) _ hk (j%6) u e.symm
   rw[show off+j/6*6+j%6=off+j by omega] at this
   exact(World.cell?_alloc_lt w _ _ hgl).trans this
  have H1:Hid (∀u∈acCells l,u.oneCell'=true):=acone l
  have HLEN:Hid ((acCells l).length=l.length*6):=acCells_len l
  clear h3 hv hcl
  generalize acCells l=xs at *
  generalize l.length=n at *
  go_enter Tryz.func38,Tryz.ntmps38
  go_wp2_with (at_builtin;refine wpList_append_own _ rfl _ _ 31 rfl w.heap.size 50 i0 (.agg #[.int .i64 0,.int .i64 0,.int .i64 0,.int .i64 0,.int .i64 0,.int .i64 0]) 6 48 Tryz.underlying31 hi hz0 hz1 hz2 rfl (by decide) _ _ _ rfl (own0_6 w) ⟨g,off,none⟩ n c xs rfl HLEN.out HC.out H1.out (by unfold maxLen;omega) (by omega) (by simp) ?_;intro v1 w1 hown1 hg1 _)
  go_ret
  refine⟨_,rfl,by simpa using hown1,((Only.refl [] w).alloc _).grown hg1 (fun k hk=>.inr (own_base (own0_6 w) k hk))⟩
end Go.Proofs.YtcidjimefnhacaaGreatDoor
