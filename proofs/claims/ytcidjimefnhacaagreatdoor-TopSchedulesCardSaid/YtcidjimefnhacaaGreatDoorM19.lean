/- TopSchedules, a part of the proof: Dc, Dd, De, Df, Dg. -/
import Derived.Test.YtcidjimefnhacaaGreatDoorM18
import Derived.Test.YtcidjimefnhacaaGreatDoorM01
set_option linter.unusedVariables false
set_option linter.unusedSimpArgs false
namespace Go.Proofs.YtcidjimefnhacaaGreatDoor
open Go.RowKit
theorem run_append_zero {w:World} (t ty e:TypeId) (i:TypeInfo) (ht:Tryz.prog.underlying t=some (.slice e)) (hi:Tryz.prog.info? e=some i) (B:Option Addr) (n k:Nat) (A:Option Addr) (c:Nat) (hn:n<=k):
 (Builtin.append_ #[t,t] ty #[.slice B n k,.slice A 0 c]).run Tryz.prog w=.ok (.slice B n k) w:=by
 cases B<;>cases A<;>simp[Builtin.append_,run_underlying ht,sizeOf,typeInfo,hi,Builtin.lenOf,hn,Builtin.firstCells,storeCells,loadCells,loadCellsFrom,Result.andThen]
theorem wpList_append_zero {w:World} {ops:Array Oper} {rest:List Oper} {o:Oper} {a:Act} {Q:Exit->Act->World->Prop} (hgd:o.guard=none) (s x:Operand) (t:TypeId)
 (ho:o.op=.call {callee:=.builtin .append,args:=#[s,x],argTypes:=#[t,t]}) (e:TypeId) (i:TypeInfo) (ht:Tryz.prog.underlying t=some (.slice e)) (hi:Tryz.prog.info? e=some i) (B:Option Addr) (n k:Nat) (A:Option Addr) (c:Nat) (hn:n<=k)
 (hs:a.eval s=.slice B n k) (hx:a.eval x=.slice A 0 c) (h:wpList Tryz.prog ops Q rest (a.put o.dst (.slice B n k)) w):wpList Tryz.prog ops Q (o::rest) a w:=by
 refine wpList_plain hgd fun K hK=>?_
 have hr:=run_append_zero (w:=w) t o.type e i ht hi B n k A c hn
 unfold Oper.wp
 simp[execOp,ho,resolve,invoke,builtin,hs,hx,hr,Result.andThen]
 exact hK _ _ h
structure CLp where
 o:List Int
 lim:Int
 low:Int
structure CLp.Ok (e:CLp):Prop where
 ln:e.o.length<=256
 l1:1<=e.lim
 l2:e.lim<=128
 w0:0<=e.low
 w1:e.low<=e.o.length
structure LiSt (p:Nat) (e:CLp) (w:World) (fp:List Nat):Prop where
 ok:e.Ok
 lts:∀b∈fp,b<w.heap.size
 ex:∃v os,Blk w p 228 #[v,.int .i64 e.lim,.int .i64 e.low]/\OSl w v os e.o/\p∉os/\p∈fp/\∀b∈os,b∈fp
theorem LiSt.framed (p:Nat) (e:CLp):Framed (LiSt p e):=by
 constructor
 ·rintro w w' fp l ⟨h1,h2,v,os,a1,a2,a3,a4,a5⟩ ho hb
  exact⟨h1,fun b hb'=>Nat.lt_of_lt_of_le (h2 b hb') ho.size,v,os,a1.only ho (hb p a4),a2.only ho (fun b hb'=>hb b (a5 b hb')),a3,a4,a5⟩
 ·rintro w fp ⟨_,h2,_⟩ b hb
  exact h2 b hb
theorem LiSt.set0 {p:Nat} {w w1:World} {fp os':List Nat} {v v':Value} {lim low:Int} {o':List Int} (h2:∀b∈fp,b<w.heap.size) (hB:Blk w p 228 #[v,.int .i64 lim,.int .i64 low]) (hp:p∈fp) (ho:Only [] w w1) (hv:OSl w1 v' os' o')
 (hos:∀b∈os',b≠p/\b<w1.heap.size/\(b∈fp\/w.heap.size<=b)) (hok:CLp.Ok ⟨o',lim,low⟩):Turns (LiSt p ⟨o',lim,low⟩) w fp (w1.setCell ⟨p,0,none⟩ v'):=by
 have oS:Only [p] w1 (w1.setCell ⟨p,0,none⟩ v'):=(Only.refl [p] w1).setCell (p:=⟨p,0,none⟩) (.inl (by simp)) _
 refine⟨ho.of_nil.then_ oS (fun b hb=>.inl (by simp at hb;rw[hb];exact hp)),fp++os',⟨hok,fun b hb=>Nat.lt_of_lt_of_le ?_ oS.size,v',os',(hB.only ho (by simp)).set_ 0 v',hv.only oS (fun b hb=>by simpa using (hos b hb).1),fun h=>(hos p h).1 rfl,List.mem_append_left _ hp,fun b hb=>List.mem_append_right _ hb⟩,fun b hb=>?_⟩
 ·rcases List.mem_append.1 hb with h|h
  ·exact Nat.lt_of_lt_of_le (h2 b h) ho.size
  ·exact(hos b h).2.1
 ·rcases List.mem_append.1 hb with h|h
  ·exact .inl h
  ·exact(hos b h).2.2
theorem oadd_at {p:Nat} {e:CLp} {w:World} {fp:List Nat} (h:LiSt p e w fp) {u:Value} {us:List Nat} {xs:List Int} (hu:OSl w u us xs) (hx:xs.length<=1000):
 Calls Tryz.prog 110 #[.pointer (some ⟨p,0,none⟩),u] w fun r w'=>(256<e.o.length+xs.length/\r=.returned (.int .i64 6)/\w'=w)\/
  (e.o.length+xs.length<=256/\r=.returned (.int .i64 0)/\Turns (LiSt p {e with o:=e.o++xs}) w fp w'):=by
 obtain⟨h1,h2,v,os,a1,a2,a3,a4,a5⟩:=h
 obtain⟨A,c,rfl,hc,hA⟩:=a2.form
 obtain⟨A',c',rfl,hc',hA'⟩:=hu.form
 have hCC:=oclip_at a2
 have l256:=h1.ln
 obtain⟨n,hn⟩:∃n,n=e.o.length:=⟨_,rfl⟩
 obtain⟨m,hm⟩:∃m,m=xs.length:=⟨_,rfl⟩
 rw[<-hn] at hCC
 have CC:=Lib.hid hCC
 clear hCC
 have z0:=a1.cell_ 0 rfl
 have A1:=Lib.hid a1
 have f0:=a1.frozen 0
 have HN:=Lib.hid hn
 have HM:=Lib.hid hm
 rw[<-hn] at z0 hc l256 ⊢
 rw[<-hm] at hc' hx ⊢
 clear a1
 by_cases hbig:256<n+m
 ·have d1:decide ((256:Int)<(n:Int)+m)=true:=decide_eq_true (by omega)
  have d1':decide (256<n+m)=true:=decide_eq_true (by omega)
  clear hn hm
  go_enter Tryz.func110,Tryz.ntmps110
  go_wp2_with fail
  go_ret
  exact .inl ⟨hbig,rfl,rfl⟩
 ·have d1:decide ((256:Int)<(n:Int)+m)=false:=decide_eq_false (by omega)
  have d1':decide (256<n+m)=false:=decide_eq_false (by omega)
  clear hn hm
  go_enter Tryz.func110,Tryz.ntmps110
  go_wp2_with fail
  refine CC.out.mono ?_
  rintro r wc ⟨rfl,B,rfl,hB⟩
  have HB:=Lib.hid hB
  have HU:=Lib.hid hu
  obtain⟨i0,hi,hz0,hz1,hz2⟩:=info_parts info_int
  obtain⟨_,_,eB,hcB⟩:=hB.cells
  injection eB with e1 e2 e3
  clear e2
  subst e1 e3
  obtain⟨_,_,eU,hcU⟩:=hu.cells
  injection eU with e1 e2 e3
  clear e2
  subst e1 e3
  have HCB:=Lib.hid hcB
  have HCU:=Lib.hid hcU
  have hBn:B=none->n=0/\n=0:=fun e=>by
   obtain⟨_,_,e4,_,h⟩:=HB.out.form
   injection e4 with e5 e6 e7
   rw[<-e5] at h
   have:=h e
   have:=HN.out
   omega
  clear hcB hcU hB hu a2
  rcases Nat.eq_zero_or_pos m with hm0|hm0
  ·subst hm0
   go_wp2_with (at_builtin;go_loud (refine wpList_append_zero rfl _ _ 37 rfl 3 i0 Tryz.underlying37 hi B n n A' c' (Nat.le_refl _) rfl rfl ?_))
   go_ret
   have hxs:xs=[]:=List.eq_nil_of_length_eq_zero HM.out.symm
   refine .inr ⟨by omega,rfl,?_⟩
   rw[hxs,List.append_nil]
   exact LiSt.set0 h2 A1.out a4 (Only.refl _ _) HB.out (fun b hb=>⟨fun e=>a3 (e▸hb),h2 b (a5 b hb),.inl (a5 b hb)⟩) h1
  ·cases A' with
   |none=>exact absurd (hA' rfl).1 (by have:=HM.out;omega)
   |some ad=>
    go_wp2_with (at_builtin;refine wpList_append_grows _ rfl _ _ 37 rfl 3 i0 (.int .i64 0) 1 8 Tryz.underlying37 hi hz0 hz1 hz2 rfl (by decide) B n n (e.o.map (Value.int .i64)) rfl hBn (by rw[List.length_map,<-HN.out,Nat.mul_one]) HCB.out ad m c' (xs.map (Value.int .i64)) rfl (by rw[List.length_map,<-HM.out,Nat.mul_one]) (HCU.out ad rfl) (one_cell_int xs) (by omega) (by unfold maxLen;omega) (by omega) ?_;intro v1 w1 hown1 hg1;obtain⟨g3,c3,rfl,hgb,hgl⟩:=own_form hown1 (by omega);have o1:Only [] wc w1:=(Only.refl [] wc).grown hg1 (fun k h=>by cases h);have x1:=(A1.out.only o1 (by simp)).cell_ 0 rfl;have f1:=(A1.out.only o1 (by simp)).frozen 0)
    go_ret
    refine .inr ⟨by omega,rfl,?_⟩
    have hO:OSl w1 (.slice (some ⟨g3,0,none⟩) (n+m) c3) [g3] (e.o++xs):=OSl.of_own (base:=wc.heap.size) (n:=n+m) (by simpa using hown1) (by rw[List.length_append,<-HN.out,<-HM.out])
    have hpl:=h2 p a4
    exact LiSt.set0 h2 A1.out a4 o1 hO (fun b hb=>by simp at hb;subst hb;exact⟨by omega,hgl,.inr hgb⟩) ⟨by rw[List.length_append,<-HN.out,<-HM.out];omega,h1.l1,h1.l2,h1.w0,by have:=h1.w1;show e.low<=((e.o++xs).length:Int);rw[List.length_append];omega⟩
def OSt (v:Value) (l:List Int) (w:World) (fs:List Nat):Prop:=OSl w v fs l/\∀b∈fs,b<w.heap.size
theorem OSt.framed (v:Value) (l:List Int):Framed (OSt v l):=by
 constructor
 ·rintro w w' fp L ⟨h1,h2⟩ ho hb
  exact⟨h1.only ho hb,fun b hb'=>Nat.lt_of_lt_of_le (h2 b hb') ho.size⟩
 ·rintro w fp ⟨_,h2⟩ b hb
  exact h2 b hb
def Gives (St Sn:World->List Nat->Prop) (w:World) (fp:List Nat) (w':World):Prop:=Only fp w w'/\∃fp' fs',St w' fp'/\Sn w' fs'/\(∀b∈fp',b∈fp\/w.heap.size<=b)/\∀b∈fs',(b∈fp\/w.heap.size<=b)/\b∉fp'
def GivesN (St Sn:World->List Nat->Prop) (w:World) (fp:List Nat) (w':World):Prop:=Only fp w w'/\∃fp' fs',St w' fp'/\Sn w' fs'/\(∀b∈fp',b∈fp\/w.heap.size<=b)/\∀b∈fs',w.heap.size<=b/\b∉fp'
theorem GivesN.gives {St Sn:World->List Nat->Prop} {w w':World} {fp:List Nat} (h:GivesN St Sn w fp w'):Gives St Sn w fp w':=by
 obtain⟨h1,fp',fs',h2,h3,h4,h5⟩:=h
 exact⟨h1,fp',fs',h2,h3,h4,fun b hb=>⟨.inr (h5 b hb).1,(h5 b hb).2⟩⟩
theorem Gives.fst {St Sn:World->List Nat->Prop} {w w':World} {fp:List Nat} (h:Gives St Sn w fp w'):Turns St w fp w':=by
 obtain⟨h1,fp',fs',h2,_,h3,_⟩:=h
 exact⟨h1,fp',h2,h3⟩
set_option maxHeartbeats 1000000 in
theorem oldest_at {p:Nat} {e:CLp} {w:World} {fp:List Nat} (h:LiSt p e w fp) (k:Nat) (hk:k<=e.o.length):
 Calls Tryz.prog 113 #[.pointer (some ⟨p,0,none⟩),.int .i64 k] w fun r w'=>∃v,r=.returned v/\GivesN (LiSt p ⟨e.o.drop k,e.lim,min e.low ((e.o.length-k:Nat):Int)⟩) (OSt v (e.o.take k)) w fp w':=by
 have HOK:=Lib.hid h.ok
 have H2:=Lib.hid h.lts
 obtain⟨h1,h2,v,os,a1,a2,a3,a4,a5⟩:=h
 obtain⟨A,c,rfl,hc,hA⟩:=a2.form
 have z0:=a1.cell_ 0 rfl
 have l256:=h1.ln
 obtain⟨i0,hi,hz0,hz1,hz2⟩:=info_parts info_int
 have CT:=Lib.hid (oclone_at (a2.take hk) (by rw[List.length_take];omega))
 obtain⟨n,hn⟩:∃n,n=e.o.length:=⟨_,rfl⟩
 have HN:=Lib.hid hn
 rw[<-hn] at z0 hc l256 hk a1 a2 ⊢
 have A1:=Lib.hid a1
 have A2:=Lib.hid a2
 have hk9:(k:Int)<=n:=by omega
 clear a1 a2 hn h1
 go_enter Tryz.func113,Tryz.ntmps113
 go_wp2_with (refine wpList_slice_to rfl 37 _ _ rfl 3 elem_ints Tryz.underlying37 i0 hi hz1 _ _ _ _ rfl rfl (by omega) ?_;intro vs hvs;have ct:=CT.out;rw[<-hvs] at ct;clear hvs)
 refine ct.mono ?_
 rintro r w1 ⟨v1,rfl,hown1,ho1⟩
 rw[List.length_take,<-HN.out,Nat.min_eq_left hk] at hown1
 obtain⟨B1,d1,rfl,_⟩:=own_slice hown1
 have HO1:=Lib.hid ho1
 have HW1:=Lib.hid hown1
 have CD:=Lib.hid (oclone_at ((A2.out.still ho1).drop (by rw[<-HN.out];exact hk)) (by rw[List.length_drop,<-HN.out];omega))
 have x0:=(A1.out.only ho1 (by simp)).cell_ 0 rfl
 clear ho1 hown1 ct CT z0
 go_wp2_with (refine wpList_slice_from rfl 37 _ _ rfl 3 elem_ints Tryz.underlying37 i0 hi hz1 _ _ _ _ rfl rfl hk ?_;intro vs hvs;have cd:=CD.out;rw[<-hvs] at cd;clear hvs)
 refine cd.mono ?_
 rintro r w2 ⟨v2,rfl,hown2,ho2⟩
 have hln:(e.o.drop k).length=n-k:=by rw[List.length_drop,<-HN.out]
 rw[hln] at hown2
 obtain⟨B2,d2,rfl,_⟩:=own_slice hown2
 have HB2:=Lib.hid ((A1.out.only HO1.out (by simp)).only ho2 (by simp))
 have f2:=HB2.out.frozen 0
 have y2:=HB2.out.cell_ 0 rfl
 have HS:=Lib.hid (HB2.out.set_ 0 (.slice B2 (n-k) d2))
 have HO2:=Lib.hid ho2
 have HW2:=Lib.hid hown2
 have hnk:((n-k:Nat):Int)=(n:Int)-k:=by omega
 have HNK:=Lib.hid hnk
 clear ho2 hown2 cd CD x0 hln hnk
 generalize hm:n-k=m at *
 have HMK:=Lib.hid hm
 clear hm
 go_wp2_with fail
 have oS:Only [p] w2 (w2.setCell ⟨p,0,none⟩ (.slice B2 m d2)):=(Only.refl [p] w2).setCell (p:=⟨p,0,none⟩) (.inl (by simp)) _
 have HOS:=Lib.hid oS
 have hs':=HS.out
 generalize w2.setCell ⟨p,0,none⟩ (.slice B2 m d2)=w3 at *
 have u0:=hs'.cell_ 0 rfl
 have u2:=hs'.cell_ 2 rfl
 have g2:=hs'.frozen 2
 clear hs' oS y2 f2
 go_region
 go_wp2_with fail
 go_ret
 have oE:Only [p] w3 ((w3.setCell ⟨p,2,none⟩ (.int .i64 (min e.low (m:Int)))).drew):=((Only.refl [p] w3).setCell (p:=⟨p,2,none⟩) (.inl (by simp)) _).drew
 have hB:Blk ((w3.setCell ⟨p,2,none⟩ (.int .i64 (min e.low (m:Int)))).drew) p 228 #[.slice B2 m d2,.int .i64 e.lim,.int .i64 (min e.low (m:Int))]:=(HS.out.set_ 2 (.int .i64 (min e.low (m:Int)))).drew
 have hpl:=h2 p a4
 have hs1:=HO1.out.size
 have hs2:=HO2.out.size
 have q1:∀b∈(Value.ownBlock (.slice B1 k d1)).toList,w.heap.size<=b/\b<w1.heap.size:=fun b hb=>⟨own_base HW1.out b (Option.mem_toList.1 hb),own_lt' HW1.out b (Option.mem_toList.1 hb)⟩
 have q2:∀b∈(Value.ownBlock (.slice B2 m d2)).toList,w1.heap.size<=b/\b<w2.heap.size:=fun b hb=>⟨own_base HW2.out b (Option.mem_toList.1 hb),own_lt' HW2.out b (Option.mem_toList.1 hb)⟩
 have hml:m=(e.o.drop k).length:=by rw[List.length_drop,<-HN.out];have:=HNK.out;omega
 have hkl:k=(e.o.take k).length:=by rw[List.length_take,<-HN.out];omega
 have oo:=(HOS.out.trans oE).size
 have hmk:=HMK.out
 rw[hmk]
 refine⟨_,rfl,?_,fp++(Value.ownBlock (.slice B2 m d2)).toList,(Value.ownBlock (.slice B1 k d1)).toList,⟨⟨?_,HOK.out.l1,HOK.out.l2,?_,?_⟩,fun b hb=>?_,_,_,hB,?_,fun h=>?_,List.mem_append_left _ a4,fun b hb=>List.mem_append_right _ hb⟩,⟨?_,fun b hb=>?_⟩,fun b hb=>?_,fun b hb=>⟨(q1 b hb).1,fun h=>?_⟩⟩
 ·exact((HO1.out.of_nil.trans HO2.out.of_nil).then_ HOS.out (fun b hb=>.inl (by simp at hb;rw[hb];exact a4))).then_ oE (fun b hb=>.inl (by simp at hb;rw[hb];exact a4))
 ·show(e.o.drop k).length<=256
  omega
 ·show 0<=min e.low (m:Int)
  have:=HOK.out.w0
  omega
 ·show min e.low (m:Int)<=((e.o.drop k).length:Int)
  omega
 ·rcases List.mem_append.1 hb with h|h
  ·have:=h2 b h;omega
  ·have:=q2 b h;omega
 ·exact((OSl.of_own HW2.out hml).only HOS.out (fun b hb=>by have:=q2 b hb;simp;omega)).only oE (fun b hb=>by have:=q2 b hb;simp;omega)
 ·have:=q2 p h;omega
 ·exact(((OSl.of_own HW1.out hkl).still HO2.out).only HOS.out (fun b hb=>by have:=q1 b hb;simp;omega)).only oE (fun b hb=>by have:=q1 b hb;simp;omega)
 ·have:=q1 b hb;omega
 ·rcases List.mem_append.1 hb with h|h
  ·exact .inl h
  ·right;have:=q2 b h;omega
 ·rcases List.mem_append.1 h with h|h
  ·have:=h2 b h;have:=q1 b hb;omega
  ·have:=q1 b hb;have:=q2 b h;omega
structure CE where
 p:Nat
 e:CLp
def cSet (C:Int->Option CE) (k:Int) (x:CE):Int->Option CE:=fun j=>if j=k then some x else C j
theorem cSet_at {C:Int->Option CE} {k:Int} {x:CE}:cSet C k x k=some x:=by simp[cSet]
theorem cSet_ne {C:Int->Option CE} {k j:Int} {x:CE} (h:j≠k):cSet C k x j=C j:=by simp[cSet,h]
def cG (C:Int->Option CE):Int->Option Value:=fun k=>(C k).map fun x=>.pointer (some ⟨x.p,0,none⟩)
structure CaSt (q:Nat) (T:List Z.Cl) (bud:Int) (C:Int->Option CE) (w:World) (fp:List Nat):Prop where
 tab:Z.isTable T
 bb:0<=bud/\bud<=65536
 dom:∀k x,C k=some x->0<=k/\k<T.length
 lts:∀b∈fp,b<w.heap.size
 ex:∃(ta:Addr) (tc gm cnt:Nat) (ff:Int->List Nat),Blk w q 153 #[.slice (some ta) T.length tc,.int .i64 bud,.map (some gm)]/\Z.ReadsC w (some ta) T.length T/\T.length<=tc/\
  IMap w gm (cG C) cnt/\(∀k x,C k=some x->LiSt x.p x.e w (ff k))/\(∀k k' x x',C k=some x->C k'=some x'->k≠k'->∀b∈ff k,b∉ff k')/\
  (∀k x,C k=some x->∀b∈ff k,b∈fp/\b≠q/\b≠gm/\b≠ta.block)/\q∈fp/\gm∈fp/\ta.block∈fp/\q≠gm/\q≠ta.block/\gm≠ta.block
theorem CaSt.framed (q:Nat) (T:List Z.Cl) (bud:Int) (C:Int->Option CE):Framed (CaSt q T bud C):=by
 constructor
 ·rintro w w' fp l ⟨h1,h2,h3,h4,ta,tc,gm,cnt,ff,a1,a2,a3,a4,a5,a6,a7,a8,a9,a10,a11⟩ ho hb
  exact⟨h1,h2,h3,fun b hb'=>Nat.lt_of_lt_of_le (h4 b hb') ho.size,ta,tc,gm,cnt,ff,a1.only ho (hb _ a8),a2.only ho (fun ad e=>by cases e;exact hb _ a10),a3,a4.only ho (hb _ a9),fun k x hx=>(LiSt.framed _ _).only (a5 k x hx) ho (fun b hb'=>hb b (a7 k x hx b hb').1),a6,a7,a8,a9,a10,a11⟩
 ·rintro w fp h b hb
  exact h.lts b hb
theorem CaSt.lift2 {q:Nat} {T:List Z.Cl} {bud:Int} {C:Int->Option CE} {w:World} {fp:List Nat} (h:CaSt q T bud C w fp) {k:Int} {p:Nat} {e:CLp} (hk:C k=some ⟨p,e⟩):
 ∃f,LiSt p e w f/\(∀b∈f,b∈fp)/\(q∉f/\∀gm,w.cell? ⟨q,2,none⟩=some (.map (some gm))->gm∉f)/\∀(e':CLp) (w':World) (f':List Nat),Only f w w'->LiSt p e' w' f'->(∀b∈f',b∈f\/w.heap.size<=b)->CaSt q T bud (cSet C k ⟨p,e'⟩) w' (fp.filter (fun b=>decide (b∉f))++f'):=by
 obtain⟨h1,h2,h3,h4,ta,tc,gm,cnt,ff,a1,a2,a3,a4,a5,a6,a7,a8,a9,a10,a11⟩:=h
 have a7k:=a7 k _ hk
 refine⟨ff k,a5 k _ hk,fun b hb=>(a7k b hb).1,⟨fun hb=>(a7k q hb).2.1 rfl,fun g hg hb=>?_⟩,?_⟩
 ·have e2:=(a1.cell_ 2 rfl).symm.trans hg
  injection e2 with e2
  injection e2 with e2
  injection e2 with e2
  exact(a7k g hb).2.2.1 e2.symm
 intro e' w' f' ho hl hf
 have nq:q∉ff k:=fun hb=>(a7k q hb).2.1 rfl
 have ng:gm∉ff k:=fun hb=>(a7k gm hb).2.2.1 rfl
 have nt:ta.block∉ff k:=fun hb=>(a7k _ hb).2.2.2 rfl
 have keep:∀b,b∈fp->b∉ff k->b∈fp.filter (fun b=>decide (b∉ff k))++f':=fun b h1 h2=>List.mem_append_left _ (List.mem_filter.2 ⟨h1,decide_eq_true h2⟩)
 refine⟨h1,h2,fun j x hx=>?_,fun b hb=>?_,ta,tc,gm,cnt,fun j=>if j=k then f' else ff j,a1.only ho nq,a2.only ho (fun ad e=>by cases e;exact nt),a3,(a4.only ho ng).ext (fun j=>?_),fun j x hx=>?_,fun j j' x x' hx hx' hne b hb=>?_,fun j x hx b hb=>?_,keep q a8 nq,keep gm a9 ng,keep _ a10 nt,a11⟩
 ·by_cases e:j=k
  ·rw[e];exact h3 k _ hk
  ·rw[cSet_ne e] at hx;exact h3 j x hx
 ·rcases List.mem_append.1 hb with h|h
  ·exact Nat.lt_of_lt_of_le (h4 b (List.mem_filter.1 h).1) ho.size
  ·exact hl.lts b h
 ·unfold cG cSet
  split
  ·rename_i e;rw[e,hk];rfl
  ·rfl
 ·by_cases e:j=k
  ·subst e
   rw[cSet_at] at hx
   injection hx with hx
   subst hx
   simpa using hl
  ·rw[cSet_ne e] at hx
   simp only[if_neg e]
   exact(LiSt.framed _ _).only (a5 j x hx) ho (a6 j k x _ hx hk e)
 ·have old:∀j x,cSet C k ⟨p,e'⟩ j=some x->j≠k->C j=some x:=fun j x hx e=>by rwa[cSet_ne e] at hx
  by_cases e1:j=k
  ·have e2:j'≠k:=fun e=>hne (e1.trans e.symm)
   simp only[if_pos e1] at hb
   simp only[if_neg e2]
   intro hb2
   have hx2:=old j' x' hx' e2
   rcases hf b hb with h|h
   ·exact a6 k j' _ _ hk hx2 e2.symm b h hb2
   ·have:=h4 b (a7 j' x' hx2 b hb2).1;omega
  ·simp only[if_neg e1] at hb
   have hx1:=old j x hx e1
   by_cases e2:j'=k
   ·simp only[if_pos e2]
    intro hb2
    rcases hf b hb2 with h|h
    ·exact a6 k j _ _ hk hx1 (Ne.symm e1) b h hb
    ·have:=h4 b (a7 j x hx1 b hb).1;omega
   ·simp only[if_neg e2]
    exact a6 j j' x x' hx1 (old j' x' hx' e2) hne b hb
 ·by_cases e1:j=k
  ·simp only[if_pos e1] at hb
   refine⟨List.mem_append_right _ hb,?_⟩
   rcases hf b hb with h|h
   ·exact(a7k b h).2
   ·exact⟨fun e=>by have:=h4 q a8;omega,fun e=>by have:=h4 gm a9;omega,fun e=>by have:=h4 _ a10;omega⟩
  ·simp only[if_neg e1] at hb
   rw[cSet_ne e1] at hx
   have h5:=a7 j x hx b hb
   exact⟨keep b h5.1 (a6 j k x _ hx hk e1 b hb),h5.2⟩
theorem CaSt.lift {q:Nat} {T:List Z.Cl} {bud:Int} {C:Int->Option CE} {w:World} {fp:List Nat} (h:CaSt q T bud C w fp) {k:Int} {p:Nat} {e:CLp} (hk:C k=some ⟨p,e⟩):
 ∃f,LiSt p e w f/\(∀b∈f,b∈fp)/\∀(e':CLp) (w':World) (f':List Nat),Only f w w'->LiSt p e' w' f'->(∀b∈f',b∈f\/w.heap.size<=b)->CaSt q T bud (cSet C k ⟨p,e'⟩) w' (fp.filter (fun b=>decide (b∉f))++f'):=by
 obtain⟨f,h1,h2,_,h3⟩:=h.lift2 hk
 exact⟨f,h1,h2,h3⟩
theorem CaSt.begin {q:Nat} {T:List Z.Cl} {bud:Int} {C:Int->Option CE} {w w':World} {fp:List Nat} {ta:Addr} {tc gm:Nat} {ff:Int->List Nat} {k:Int} {x:CE} (h1:Z.isTable T) (h2:0<=bud/\bud<=65536) (h3:∀k x,C k=some x->0<=k/\k<T.length) (h4:∀b∈fp,b<w.heap.size)
 (a1:Blk w q 153 #[.slice (some ta) T.length tc,.int .i64 bud,.map (some gm)]) (a2:Z.ReadsC w (some ta) T.length T) (a3:T.length<=tc)
 (a5:∀k x,C k=some x->LiSt x.p x.e w (ff k)) (a6:∀k k' x x',C k=some x->C k'=some x'->k≠k'->∀b∈ff k,b∉ff k')
 (a7:∀k x,C k=some x->∀b∈ff k,b∈fp/\b≠q/\b≠gm/\b≠ta.block) (a8:q∈fp) (a9:gm∈fp) (a10:ta.block∈fp) (a11:q≠gm/\q≠ta.block/\gm≠ta.block)
 (k0:0<=k) (k1:k<T.length) (hC:C k=none) {w1:World} (ho1:Only [] w w1) (ho:Only [gm] w1 w') {cnt':Nat} (hI:IMap w' gm (cG (cSet C k x)) cnt') (hp:w.heap.size<=x.p) (hl:LiSt x.p x.e w1 [x.p]):CaSt q T bud (cSet C k x) w' (fp++[x.p]):=by
 have hso:=ho1.size
 have hlw:=hl.lts x.p (by simp)
 have both:∀b,b≠gm->b∉ [gm]:=fun b h=>by simpa using h
 have lt:∀j y,C j=some y->∀b∈ff j,b≠x.p:=fun j y hy b hb e=>by have:=h4 b (a7 j y hy b hb).1;omega
 have ngp:gm≠x.p:=fun e=>by have:=h4 gm a9;omega
 refine⟨h1,h2,fun j y hy=>?_,fun b hb=>Nat.lt_of_lt_of_le ?_ ho.size,ta,tc,gm,cnt',fun j=>if j=k then [x.p] else ff j,(a1.only ho1 (by simp)).only ho (both q a11.1),(a2.still ho1).only ho (fun ad e=>by cases e;exact both _ (Ne.symm a11.2.2)),a3,hI,fun j y hy=>?_,fun j j' y y' hy hy' hne b hb=>?_,fun j y hy b hb=>?_,List.mem_append_left _ a8,List.mem_append_left _ a9,List.mem_append_left _ a10,a11⟩
 ·by_cases e:j=k
  ·rw[e];exact⟨k0,k1⟩
  ·rw[cSet_ne e] at hy;exact h3 j y hy
 ·rcases List.mem_append.1 hb with h|h
  ·exact Nat.lt_of_lt_of_le (h4 b h) hso
  ·simp at h;rw[h];exact hlw
 ·by_cases e:j=k
  ·subst e
   rw[cSet_at] at hy
   injection hy with hy
   subst hy
   simp only[if_true]
   exact(LiSt.framed _ _).only hl ho (fun b hb=>by simp at hb;rw[hb];exact both _ ngp.symm)
  ·rw[cSet_ne e] at hy
   simp only[if_neg e]
   exact(LiSt.framed _ _).only ((LiSt.framed _ _).still (a5 j y hy) ho1) ho (fun b hb=>both b (a7 j y hy b hb).2.2.1)
 ·by_cases e1:j=k
  ·have e2:j'≠k:=fun e=>hne (e1.trans e.symm)
   simp only[if_pos e1] at hb
   simp only[if_neg e2]
   rw[cSet_ne e2] at hy'
   intro hb2
   simp at hb
   exact lt j' y' hy' b hb2 hb
  ·simp only[if_neg e1] at hb
   rw[cSet_ne e1] at hy
   by_cases e2:j'=k
   ·simp only[if_pos e2]
    intro hb2
    simp at hb2
    exact lt j y hy b hb hb2
   ·simp only[if_neg e2]
    rw[cSet_ne e2] at hy'
    exact a6 j j' y y' hy hy' hne b hb
 ·by_cases e1:j=k
  ·simp only[if_pos e1] at hb
   simp at hb
   subst hb
   exact⟨by simp,fun e=>by have:=h4 q a8;omega,fun e=>ngp e.symm,fun e=>by have:=h4 _ a10;omega⟩
  ·simp only[if_neg e1] at hb
   rw[cSet_ne e1] at hy
   have h5:=a7 j y hy b hb
   exact⟨List.mem_append_left _ h5.1,h5.2⟩
theorem und_mil:Tryz.prog.underlying 151=some (.map 3 224):=by kernel_rfl
theorem zero_list (W:World):(zeroValue 224).run Tryz.prog W=.ok (.pointer none) W:=by kernel_rfl
theorem cmade_at {q:Nat} {T:List Z.Cl} {bud:Int} {C:Int->Option CE} {w:World} {fp:List Nat} (h:CaSt q T bud C w fp):Still Tryz.prog 114 #[.pointer (some ⟨q,0,none⟩)] w (.bool true):=by
 obtain⟨h1,h2,h3,h4,ta,tc,gm,cnt,ff,a1,a2,a3,a4,a5,a6,a7,a8,a9,a10,a11⟩:=h
 have z2:=a1.cell_ 2 rfl
 clear a1 a2 a3 a4 a5 a6 a7 a8 a9 a10 h3 h4
 have hnm:=run_neq_map_nil (P:=Tryz.prog) w 151 3 224 (some gm) und_mil
 go_enter Tryz.func114,Tryz.ntmps114
 go_wp2_with fail
 go_ret
 exact⟨rfl,rfl⟩
def cOf (C:Int->Option CE) (k:Int) (p:Nat):Int->Option CE:=match C k with
 |some _=>C
 |none=>cSet C k ⟨p,⟨[],1,0⟩⟩
set_option maxHeartbeats 1000000 in
theorem cof_at {q:Nat} {T:List Z.Cl} {bud:Int} {C:Int->Option CE} {w:World} {fp:List Nat} (h:CaSt q T bud C w fp) (k:Nat) (hk:k<T.length):
 Calls Tryz.prog 125 #[.pointer (some ⟨q,0,none⟩),.int .i64 k] w fun r w'=>∃x,r=.returned (.pointer (some ⟨x.p,0,none⟩))/\cOf C k x.p k=some x/\Turns (CaSt q T bud (cOf C k x.p)) w fp w':=by
 have CM:=Lib.hid (cmade_at h)
 have HH:=Lib.hid h
 obtain⟨h1,h2,h3,h4,ta,tc,gm,cnt,ff,a1,a2,a3,a4,a5,a6,a7,a8,a9,a10,a11⟩:=h
 have z0:=a1.cell_ 0 rfl
 have z2:=a1.cell_ 2 rfl
 have hn40:=h1.2.1
 obtain⟨n,hn⟩:∃n,n=T.length:=⟨_,rfl⟩
 have HN:=Lib.hid hn
 rw[<-hn] at z0 hk hn40
 have d1:decide ((k:Int)<0)=false:=decide_eq_false (by omega)
 have d2:decide ((n:Int)<=k)=false:=decide_eq_false (by omega)
 have d2':decide (n<=k)=false:=decide_eq_false (by omega)
 have HI:=Lib.hid a4
 have hki:I64 (k:Int):=by unfold I64;omega
 cases hC:C k with
 |some x=>
  have hG:Hid (cG C k=some (.pointer (some ⟨x.p,0,none⟩))):=(by unfold cG;rw[hC];rfl:cG C k=_)
  have E:Hid (cOf C k x.p=C):=(by unfold cOf;rw[hC]:cOf C k x.p=C)
  have HC:=Lib.hid hC
  clear hC hn h1 h2 h3 h4 a1 a2 a3 a4 a5 a6 a7 a8 a9 a10 a11
  go_enter Tryz.func125,Tryz.ntmps125
  go_wp2_with (first|(go_at_call 114;with_reducible refine Still.use CM.out ?_)|(at_lookup;refine wpList_look rfl _ _ _ _ rfl und_mil zero_list rfl HI.out rfl hki ?_;rw[hG.out,Option.getD_some]))
  go_ret
  exact⟨x,rfl,by rw[E.out];exact HC.out,by rw[E.out];exact Turns.in_ (Only.refl _ _) HH.out⟩
 |none=>
  have hG:Hid (cG C k=none):=(by unfold cG;rw[hC];rfl:cG C k=_)
  have HX:=Lib.hid (And.intro h1 (And.intro h2 (And.intro h3 (And.intro h4 (And.intro a1 (And.intro a2 (And.intro a3 (And.intro a5 (And.intro a6 (And.intro a7 (And.intro a8 (And.intro a9 (And.intro a10 (And.intro a11 hC))))))))))))))
  have A1:=Lib.hid a1
  have HI1:=Lib.hid (a4.only ((Only.refl [] w).alloc (.cells #[.slice none 0 0,.int .i64 1,.int .i64 0] 228)) (by simp))
  have B1:=a1.alloc (.cells #[.slice none 0 0,.int .i64 1,.int .i64 0] 228)
  have hX1:=a11.1
  clear hC hn h1 h2 h3 h4 a1 a2 a3 a4 a5 a6 a7 a8 a9 a10 a11
  go_enter Tryz.func125,Tryz.ntmps125
  go_wp2_with (first
   |(go_at_call 114;with_reducible refine Still.use CM.out ?_)
   |(at_lookup;refine wpList_look rfl _ _ _ _ rfl und_mil zero_list rfl HI.out rfl hki ?_;rw[hG.out,Option.getD_none])
   |(at_mapUpdate;refine wpList_put (v:=.pointer (some ⟨w.heap.size,0,none⟩)) rfl _ _ _ 151 224 rfl und_mil rfl HI1.out rfl hki rfl ?_;intro w2 ho2 hI2;have y2:=(B1.only ho2 (by simpa using hX1)).cell_ 2 rfl)
   |(at_lookup;refine wpList_look rfl _ _ _ _ rfl und_mil zero_list rfl hI2 rfl hki ?_;rw[if_pos rfl,Option.getD_some]))
  go_ret
  obtain⟨h1,h2,h3,h4,a1,a2,a3,a5,a6,a7,a8,a9,a10,a11,hC⟩:=HX.out
  have e1:cOf C k w.heap.size=cSet C k ⟨w.heap.size,⟨[],1,0⟩⟩:=by unfold cOf;rw[hC]
  have ho1:Only [] w (w.alloc (.cells #[.slice none 0 0,.int .i64 1,.int .i64 0] 228)):=(Only.refl [] w).alloc _
  refine⟨⟨w.heap.size,⟨[],1,0⟩⟩,rfl,?_,?_⟩
  ·show cOf C k w.heap.size k=_
   rw[e1,cSet_at]
  ·show Turns (CaSt q T bud (cOf C k w.heap.size)) w fp w2
   rw[e1]
   refine⟨ho1.of_nil.then_ ho2 (fun b hb=>.inl (by simp at hb;rw[hb];exact a9)),fp++[w.heap.size],CaSt.begin h1 h2 h3 h4 a1 a2 a3 a5 a6 a7 a8 a9 a10 a11 (by omega) (by rw[<-HN.out];omega) hC ho1 ho2 (hI2.ext (fun j=>?_)) (Nat.le_refl _) ⟨⟨by simp,by show(1:Int)<=1;decide,by show(1:Int)<=128;decide,by show(0:Int)<=0;decide,by simp⟩,fun b hb=>by simp at hb;subst hb;simp,_,[],Blk.new w _ _,OSl.nil _ _,by simp,by simp,by simp⟩,fun b hb=>?_⟩
   ·unfold cG cSet
    by_cases e:j=(k:Int)
    ·simp[e]
    ·simp[e]
   ·rcases List.mem_append.1 hb with h|h
    ·exact .inl h
    ·simp at h;exact .inr (by omega)
theorem cfind_at {q:Nat} {T:List Z.Cl} {bud:Int} {C:Int->Option CE} {w:World} {fp:List Nat} (h:CaSt q T bud C w fp) (k:Nat) (hk:k<T.length):
 Calls Tryz.prog 102 #[.pointer (some ⟨q,0,none⟩),.int .i64 k] w fun r w'=>∃x,r=.returned (.tuple #[.pointer (some ⟨x.p,0,none⟩),.int .i64 0])/\cOf C k x.p k=some x/\Turns (CaSt q T bud (cOf C k x.p)) w fp w':=by
 have CM:=Lib.hid (cmade_at h)
 have CO:=Lib.hid (cof_at h k hk)
 clear h hk
 go_enter Tryz.func102,Tryz.ntmps102
 go_wp2_with (first|(go_at_call 114;with_reducible refine Still.use CM.out ?_))
 refine CO.out.mono ?_
 rintro r w1 ⟨x,rfl,h1,h2⟩
 have H1:=Lib.hid h1
 have H2:=Lib.hid h2
 clear h1 h2 CO
 go_wp2_with fail
 go_ret2
 exact⟨x,rfl,H1.out,H2.out⟩
theorem CaSt.entry {q:Nat} {T:List Z.Cl} {bud:Int} {C:Int->Option CE} {w:World} {fp:List Nat} (h:CaSt q T bud C w fp) {k:Int} {x:CE} (hk:C k=some x):x.e.Ok:=by
 obtain⟨p,e⟩:=x
 obtain⟨f,h1,_⟩:=h.lift hk
 exact h1.ok
theorem CaSt.tabs {q:Nat} {T:List Z.Cl} {bud:Int} {C:Int->Option CE} {w:World} {fp:List Nat} (h:CaSt q T bud C w fp) {k:Nat} (hk:k<T.length):∃(ta:Addr) (tc:Nat) (gm:Nat),w.cell? ⟨q,0,none⟩=some (.slice (some ta) T.length tc)/\w.cell? ⟨q,1,none⟩=some (.int .i64 bud)/\w.cell? ⟨q,2,none⟩=some (.map (some gm))/\
 w.cell? (ta.add (k*3))=some (.int .i64 (Z.cAt T k).s)/\w.cell? ⟨(ta.add (k*3)).block,(ta.add (k*3)).off+1,none⟩=some (.int .i64 (Z.cAt T k).p)/\w.cell? ⟨(ta.add (k*3)).block,(ta.add (k*3)).off+2,none⟩=some (.int .i64 (Z.cAt T k).b)/\(Z.cAt T k).ok:=by
 obtain⟨h1,h2,h3,h4,ta,tc,gm,cnt,ff,a1,a2,r⟩:=h
 obtain⟨ta',e,c1,c2,c3⟩:=a2.at_ hk
 injection e with e
 subst e
 exact⟨ta,tc,gm,a1.cell_ 0 rfl,a1.cell_ 1 rfl,a1.cell_ 2 rfl,c1,c2,c3,(h1.2.2 k hk).1⟩
theorem LiSt.cells {p:Nat} {e:CLp} {w:World} {fp:List Nat} (h:LiSt p e w fp):∃A c,w.cell? ⟨p,0,none⟩=some (.slice A e.o.length c)/\w.cell? ⟨p,1,none⟩=some (.int .i64 e.lim)/\w.cell? ⟨p,2,none⟩=some (.int .i64 e.low)/\e.o.length<=c/\OSl w (.slice A e.o.length c) fp e.o/\(∀i,w.frozen? ⟨p,i,none⟩=false):=by
 obtain⟨h1,h2,v,os,a1,a2,a3,a4,a5⟩:=h
 obtain⟨A,c,rfl,hc,_⟩:=a2.form
 exact⟨A,c,a1.cell_ 0 rfl,a1.cell_ 1 rfl,a1.cell_ 2 rfl,hc,a2.mono a5,fun i=>a1.frozen i⟩
theorem cwant_at {q:Nat} {T:List Z.Cl} {bud:Int} {C:Int->Option CE} {w:World} {fp:List Nat} (h:CaSt q T bud C w fp) (k:Nat) (hk:k<T.length):
 Calls Tryz.prog 84 #[.pointer (some ⟨q,0,none⟩),.int .i64 k] w fun r w'=>∃(n:Nat) (p:Nat),r=.returned (.tuple #[.int .i64 n,.int .i64 0])/\1<=n/\n<=32/\(n:Int)<=(Z.cAt T k).b/\Turns (CaSt q T bud (cOf C k p)) w fp w':=by
 have CF:=Lib.hid (cfind_at h k hk)
 have HK:=Lib.hid hk
 have hk40:k<40:=by have:=h.tab.2.1;omega
 clear h hk
 go_enter Tryz.func84,Tryz.ntmps84
 go_wp2_with fail
 refine CF.out.mono ?_
 rintro r w1 ⟨x,rfl,h1,h2⟩
 have H2:=Lib.hid h2
 obtain⟨_,fp1,hs,_⟩:=h2
 obtain⟨p,e⟩:=x
 obtain⟨f,hl,_⟩:=hs.lift h1
 obtain⟨A,c,l0,l1,l2,_,_,_⟩:=hl.cells
 have hok:=hl.ok
 obtain⟨ta,tc,gm,t0,t1,t2,s0,s1,s2,sok⟩:=hs.tabs HK.out
 have hkn:=HK.out
 obtain⟨o1,o2,o3,o4,o5,o6,o7,o8⟩:=sok
 have b1:=hok.l1
 have b2:=hok.l2
 generalize hb:(Z.cAt T k).b=b at *
 generalize hlim:e.lim=lim at *
 generalize T.length=n at *
 clear hs hl hok h1 CF
 have E:=Lib.hid (show ∃m:Nat,(m:Int)=min lim b/\1<=m/\m<=32/\(m:Int)<=b from⟨(min lim b).toNat,by omega,by omega,by omega,by omega⟩)
 have HBE:=Lib.hid hb
 clear hb hlim
 go_wp2_with fail
 go_region
 go_wp2_with fail
 go_ret2
 obtain⟨m,e1,e2,e3,e4⟩:=E.out
 exact⟨m,p,by rw[e1];rfl,e2,e3,by rw[HBE.out];exact e4,H2.out.last (CaSt.framed _ _ _ _) (Only.refl [] _).drew⟩
theorem cfill_at {q:Nat} {T:List Z.Cl} {bud:Int} {C:Int->Option CE} {w:World} {fp:List Nat} (h:CaSt q T bud C w fp) (k:Nat) (hk:k<T.length) {u:Value} {us:List Nat} {xs:List Int} (hu:OSl w u us xs) (hus:∀b∈us,b∉fp/\b<w.heap.size) (hx:xs.length<=1000):
 Calls Tryz.prog 89 #[.pointer (some ⟨q,0,none⟩),.int .i64 k,u] w fun r w'=>∃(n:Int) (x:CE) (o:List Int),r=.returned (.int .i64 n)/\cOf C k x.p k=some x/\(o=x.e.o\/o=x.e.o++xs.reverse)/\Turns (CaSt q T bud (cSet (cOf C k x.p) k ⟨x.p,{x.e with o:=o}⟩)) w fp w':=by
 have CF:=Lib.hid (cfind_at h k hk)
 have HK:=Lib.hid hk
 have HU:=Lib.hid hu
 have HUS:=Lib.hid hus
 clear h hk hu hus
 go_enter Tryz.func89,Tryz.ntmps89
 go_wp2_with fail
 refine CF.out.mono ?_
 rintro r w1 ⟨x,rfl,h1,h2⟩
 obtain⟨q1,fp1,hs,q2⟩:=h2
 obtain⟨p,e⟩:=x
 obtain⟨f,hl,hff,hlift⟩:=hs.lift h1
 have hu1:=HU.out.only q1 (fun b hb=>(HUS.out b hb).1)
 have CL:=Lib.hid (oclone_at hu1 (by omega))
 have HL:=Lib.hid hl
 have HX:=Lib.hid (And.intro h1 (And.intro hff (And.intro q1 q2)))
 have HLIFT:=Lib.hid hlift
 clear hs hl h1 q1 q2 hff hu1 hlift CF
 go_wp2_with fail
 refine CL.out.mono ?_
 rintro r w2 ⟨v2,rfl,hown2,ho2⟩
 obtain⟨A2,c2,rfl,_⟩:=own_slice hown2
 have CR:=Lib.hid (oreverse_at hown2)
 have HO2:=Lib.hid ho2
 have HB2:=Lib.hid (own_base hown2)
 clear hown2 ho2 CL
 go_wp2_with fail
 refine CR.out.mono ?_
 rintro r w3 ⟨rfl,hown3,ho3⟩
 have o13:Only [] w1 w3:=HO2.out.then_ ho3 (fun b hb=>.inr (HB2.out b (Option.mem_toList.1 hb)))
 have hl3:=(LiSt.framed _ _).still HL.out o13
 have CA:=Lib.hid (oadd_at hl3 (OSl.of_own (l:=xs.reverse) hown3 (by rw[List.length_reverse])) (by rw[List.length_reverse];exact hx))
 have HO13:=Lib.hid o13
 clear hown3 ho3 hl3 o13 CR
 go_wp2_with fail
 refine CA.out.mono ?_
 rintro r w4 (⟨_,rfl,rfl⟩|⟨_,rfl,h4⟩)
 ·go_wp2_with fail
  go_ret
  obtain⟨h1,hff,q1,q2⟩:=HX.out
  refine⟨6,⟨p,e⟩,e.o,rfl,h1,.inl rfl,?_⟩
  have:=HLIFT.out _ _ _ HO13.out.of_nil ((LiSt.framed _ _).still HL.out HO13.out) (fun b hb=>.inl hb)
  refine⟨q1.then_ HO13.out (by simp),_,this,fun b hb=>?_⟩
  rcases List.mem_append.1 hb with h|h
  ·exact q2 b (List.mem_filter.1 h).1
  ·exact q2 b (hff b h)
 ·have H4:=Lib.hid h4
  clear h4 CA
  go_wp2_with fail
  go_ret
  obtain⟨h1,hff,q1,q2⟩:=HX.out
  obtain⟨r1,f4,r2,r3⟩:=Turns.first HO13.out H4.out
  refine⟨0,⟨p,e⟩,e.o++xs.reverse,rfl,h1,.inr rfl,?_⟩
  have:=HLIFT.out _ _ _ r1 r2 r3
  refine⟨q1.then_ r1 (fun b hb=>q2 b (hff b hb)),_,this,fun b hb=>?_⟩
  rcases List.mem_append.1 hb with h|h
  ·exact q2 b (List.mem_filter.1 h).1
  ·rcases r3 b h with h|h
   ·exact q2 b (hff b h)
   ·exact .inr (Nat.le_trans q1.size h)
end Go.Proofs.YtcidjimefnhacaaGreatDoor
