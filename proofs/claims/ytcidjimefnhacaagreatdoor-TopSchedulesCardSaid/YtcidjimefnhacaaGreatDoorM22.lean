/- TopSchedules, a part of the proof: Ds, Hs, Ht. -/
import Derived.Test.YtcidjimefnhacaaGreatDoorM21
import Derived.Test.YtcidjimefnhacaaGreatDoorM16
import Derived.Test.YtcidjimefnhacaaGreatDoorM06
import Derived.Test.YtcidjimefnhacaaGreatDoorM15
set_option linter.unusedVariables false
set_option linter.unusedSimpArgs false
namespace Go.Proofs.YtcidjimefnhacaaGreatDoor
open Go.RowKit
theorem info_bt:(Tryz.prog.info? 205).map (fun i=>(i.zero,i.size,i.bytes))=some (some (.agg #[.int .i64 0,.slice none 0 0]),2,32):=by kernel_rfl
def BGave (q:Nat) (T:List Z.Cl) (bud:Int) (C:Int->Option CE) (w:World) (fp:List Nat) (r:Ending) (w':World):Prop:=∃(v:Value) (L:List HB) (C1:Int->Option CE) (fp1 fs:List Nat),r=.returned v/\Only fp w w'/\CaSt q T bud C1 w' fp1/\
 w'.ownsRow w.heap.size 205 2 v L.length (cellsH L)/\HRow w' L fs/\(∀b∈fp1,b∈fp\/w.heap.size<=b)/\(∀b∈fs,w.heap.size<=b/\b<w'.heap.size/\b∉fp1)/\(∀g,v.ownBlock=some g->g∉fp1/\g∉fs)/\
 (∀b∈L,b.ok T.length)/\L.length<=40/\(L.map (fun b=>b.v.ownBlock)).Nodup/\∀k a,ctok C1 k a+htok L k a=ctok C k a
theorem BGave.still {q:Nat} {T:List Z.Cl} {bud:Int} {C:Int->Option CE} {w w1 w2:World} {fp:List Nat} {r:Ending} (h:BGave q T bud C w fp r w1) (ho:Only [] w1 w2):BGave q T bud C w fp r w2:=by
 obtain⟨v,L,C1,fp1,fs,h1,h2,h3,h4,h5,h6,h7,h8⟩:=h
 exact⟨v,L,C1,fp1,fs,h1,h2.trans ho.of_nil,(CaSt.framed _ _ _ _).still h3 ho,own_only h4 ho (by simp),h5.only ho (by simp),h6,fun b hb=>⟨(h7 b hb).1,Nat.lt_of_lt_of_le (h7 b hb).2.1 ho.size,(h7 b hb).2.2⟩,h8⟩
theorem BLoop.fine {q:Nat} {T:List Z.Cl} {bud:Int} {C C1:Int->Option CE} {gm r c:Nat} {w wr:World} {fp fp1 fs:List Nat} {v:Value} {L Q:List HB} (h:BLoop q T bud C gm r w fp v L Q C1 fp1 fs c wr):∀b∈L,b.fine:=fun b hb=>by
 have h1:=(h.ok b hb).k
 have h2:=h.st.tab.2.1
 obtain⟨A,cc,e,_⟩:=(h.row b (List.mem_append_left _ hb)).form
 exact⟨by omega,A,_,cc,e⟩
theorem BLoop.sorted {q:Nat} {T:List Z.Cl} {bud:Int} {C C1:Int->Option CE} {gm r c:Nat} {w wr w':World} {fp fp1 fs:List Nat} {v:Value} {L L':List HB} (h:BLoop q T bud C gm r w fp v L [] C1 fp1 fs c wr) (hp:L'.Perm L)
 (hown:w'.ownsRow w.heap.size 205 2 v L.length (cellsH L')) (ho:Only v.ownBlock.toList wr w'):BGave q T bud C w fp (.returned v) w':=by
 obtain⟨a1,a2,a3,a4,a5,a6,a7,a8,a9,b1,b2,b3,b4,b5,b6,b7⟩:=h
 have nb:∀x,(∀g,v.ownBlock=some g->g≠x)->x∉v.ownBlock.toList:=fun x hx h=>hx x (Option.mem_toList.1 h) rfl
 refine⟨v,L',C1,fp1,fs,rfl,a6.then_ ho (fun x hx=>.inr (own_base a1 x (Option.mem_toList.1 hx))),(CaSt.framed _ _ _ _).only a2 ho (fun x hx=>nb x (fun g hg e=>(b1 g hg).1 (e▸hx))),by rw[hp.length_eq];exact hown,fun b hb=>?_,a7,fun b hb=>⟨(a9 b hb).1,Nat.lt_of_lt_of_le (a9 b hb).2.1 ho.size,(a9 b hb).2.2.1⟩,fun g hg=>⟨(b1 g hg).1,(b1 g hg).2.1⟩,fun b hb=>b3 b (hp.mem_iff.1 hb),by rw[hp.length_eq];omega,(hp.map _).nodup_iff.2 b6,fun k a=>?_⟩
 ·exact(a8 b (List.mem_append_left _ (hp.mem_iff.1 hb))).only ho (fun x hx=>nb x (fun g hg e=>(b1 g hg).2.1 (e▸hx)))
 ·rw[htok_perm hp];simpa using b5 k a
set_option maxHeartbeats 4000000 in
theorem cbatches_at {q:Nat} {T:List Z.Cl} {bud:Int} {C:Int->Option CE} {w:World} {fp:List Nat} (h:CaSt q T bud C w fp) (F:Nat) (hF:F=117\/F=121):
 Calls Tryz.prog 116 #[.pointer (some ⟨q,0,none⟩),.func (.func F) #[] #[]] w (BGave q T bud C w fp):=by
 have CM:=Lib.hid (cmade_at h)
 obtain⟨gm,cnt,z2,_,hI,hgm⟩:=h.map_
 have hcnt:cnt<=40:=by
  have h40:=h.tab.2.1
  refine hI.le (N:=40) (fun k v hv=>?_)
  obtain⟨x,hx,_⟩:=cG_some hv
  have:=h.dom k x hx
  omega
 have HI:=Lib.hid hI
 have HGM:=Lib.hid (h.lts gm hgm)
 have HH:=Lib.hid h
 have HC:=Lib.hid hcnt
 obtain⟨i0,hi,hz0,hz1,hz2⟩:=info_parts info_bt
 clear h hI hgm hcnt
 rcases hF with rfl|rfl
 all_goals
  go_enter Tryz.func116,Tryz.ntmps116
  go_wp2_with (first
   |(go_at_call 114;with_reducible refine Still.use CM.out ?_)
   |(at_range;refine wpList_rangeI rfl _ _ 224 rfl und_mil rfl HI.out ?_;intro w0 hr0 ho0))
  go_frame
  go_loopw[5] (fun t wr=>∃(A:Option Addr) (n cc:Nat) (L:List HB) (C1:Int->Option CE) (fp1 fs:List Nat) (c:Nat),t=.slice A n cc/\Hid (n=L.length)/\n<=40/\BLoop q T bud C gm w.heap.size w fp (.slice A n cc) L [] C1 fp1 fs c wr) (fun _ wr=>wr.rangeLeft gm w.heap.size)
  case atStart=>
   have hs:=HH.out
   refine⟨none,0,0,[],C,fp,[],cnt,rfl,rfl,Nat.zero_le _,World.ownsRow_nil _ _ _ _,(CaSt.framed _ _ _ _).still hs ho0,rfl,(ho0.cell (p:=⟨q,2,none⟩) (World.block_lt_of_cell? w _ z2) (by simp)).trans z2,hr0,ho0.of_nil,fun b hb=>.inl hb,(fun b hb=>by cases hb),(fun b hb=>by cases hb),(fun g hg=>by cases hg),⟨fun hb=>by have:=hs.lts _ hb;omega,Nat.le_refl _⟩,(fun b hb=>by cases hb),by simpa using HC.out,(fun k a=>by simp[htok]),by simp,(fun x hx=>by cases hx)⟩
  case round=>
   obtain⟨A,n,cc,L,C1,fp1,fs,c,rfl,HN,hn40,hB⟩:=hrel
   have HRL:=Lib.hid hB.rng.left_eq
   have HB0:=Lib.hid hB
   have hrng:=hB.rng
   clear hr0 ho0 z2 hB
   go_wp2_with (at_next;refine wpList_nextI rfl _ rfl rfl hrng ?_ ?_)
   ·intro hc0
    have CS:=Lib.hid (bsort_at (by have:=HB0.out.own;rw[<-HN.out] at this;exact this) HB0.out.fine (by omega))
    clear hrng hc0
    go_wp2_with fail
    refine CS.out.mono ?_
    rintro r w5 ⟨rfl,L',hp,hown,ho⟩
    have HX:=Lib.hid (HB0.out.sorted hp (by rw[<-HN.out];exact hown) ho)
    clear hp hown ho CS
    go_wp2_with fail
    go_ret
    exact HX.out
   ·intro k v w2 c2 hk hk64 hr2 hlt ho2 hen
    rw[<-HB0.out.g] at hk
    obtain⟨x,hx,rfl⟩:=cG_some hk
    obtain⟨hB2,hl2⟩:=HB0.out.next hr2 hlt ho2
    obtain⟨k0,k1⟩:=hB2.st.dom k x hx
    obtain⟨j,rfl⟩:∃j:Nat,k=j:=⟨k.toNat,by omega⟩
    have hj:j<T.length:=by omega
    obtain⟨p,e⟩:=x
    obtain⟨ta,tc,gm',t0,t1,t2,s0,s1,s2,sok⟩:=hB2.st.tabs (k:=j) hj
    obtain⟨y1,y2,y3,y4,y5,y6,y7,y8⟩:=sok
    obtain⟨f,hl,hG⟩:=hB2.gave hx
    have hz40:=hB2.st.tab.2.1
    have HJ:=Lib.hid hj
    have HG:=Lib.hid hG
    have HLT:=Lib.hid hlt
    have HL2:=Lib.hid (by rw[<-HN.out] at hl2;exact hl2:n+1+c2<=40)
    generalize (Z.cAt T j).b=b at *
    have CO1:=Lib.hid (scav1_at hl b (by omega) (by omega))
    have CO2:=Lib.hid (drain1_at hl b)
    generalize hT:T.length=tn at *
    have HT:=Lib.hid hT
    clear hT
    clear hB2 hG hl hr2 ho2 hx hrng hlt hk hl2 HB0
    go_wp2_with fail
    first|refine CO1.out.mono ?_ |refine CO2.out.mono ?_
    intro r w3 h3
    obtain⟨v3,l,C2,fp2,fs2,rfl,osl,hll,hB3⟩:=HG.out _ _ h3
    obtain⟨A3,c3,rfl,hc3,_⟩:=osl.form
    have hkj:((j:Int).toNat)=j:=Int.toNat_natCast j
    rw[hkj] at hB3
    have HB3:=Lib.hid hB3
    obtain⟨m,hm⟩:∃m,m=l.length:=⟨_,rfl⟩
    rw[<-hm] at hc3 hll
    have HM:=Lib.hid hm
    have hown3:=hB3.own
    rw[<-HN.out] at hown3
    have hsz:=hB3.only.size
    rw[<-hm] at HB3
    rw[<-hm]
    clear hm h3 CO1 CO2 HG osl hB3 t0 t1 t2 s0 s1 s2 hen
    by_cases hm0:m=0
    ·subst hm0
     go_wp2_with fail
     have hB4:=HB3.out.drop HM.out.symm
     go_roundw
     case rel=>exact⟨A,n,cc,L,C2,fp2,fs2,c2,rfl,HN,hn40,hB4⟩
     case measure=>rw[hB4.rng.left_eq,HRL.out];exact HLT.out
    ·have d1:decide ((0:Int)<(m:Int))=true:=decide_eq_true (by omega)
     have d1':decide (0<m)=true:=decide_eq_true (by omega)
     have hoA:Only [] w3 (w3.alloc (.cells #[.int .i64 (j:Nat),.slice A3 m c3] 205)):=(Only.refl [] w3).alloc _
     have hown4:=own_only hown3 hoA (by simp)
     have hsA:=hoA.size
     clear hown3
     go_wp2_with (at_builtin;refine wpList_append_own_at _ rfl _ _ 114 rfl w.heap.size 205 i0 (.agg #[.int .i64 0,.slice none 0 0]) 2 32 Tryz.underlying114 hi hz0 hz1 hz2 rfl (by decide) _ n _ rfl hown4 ⟨w3.heap.size,0,none⟩ 1 1 [.int .i64 (j:Nat),.slice A3 m c3] rfl rfl (news_new w3 _ _) (by simp[Value.oneCell']) (by unfold maxLen;omega) (by omega) (by omega) ?_;intro v5 w5 hown5 hg5 _ hv5)
     have hB5:=HB3.out.push hoA hg5 (by rw[<-HN.out];exact hown5) hv5 ⟨by show j<T.length;rw[HT.out];exact HJ.out,by show 0<l.length;rw[<-HM.out];omega,by show l.length<=256;rw[<-HM.out];exact hll⟩ (by rw[<-HN.out];exact HL2.out)
     obtain⟨A5,c5,rfl,_⟩:=own_slice hown5
     go_roundw
     case rel=>exact⟨A5,n+1,c5,L++[⟨j,.slice A3 m c3,l⟩],C2,fp2,fs2,c2,rfl,by rw[List.length_append,<-HN.out];rfl,by have:=HL2.out;omega,hB5⟩
     case measure=>rw[hB5.rng.left_eq,HRL.out];exact HLT.out
theorem cscav_at {q:Nat} {T:List Z.Cl} {bud:Int} {C:Int->Option CE} {w:World} {fp:List Nat} (h:CaSt q T bud C w fp):Calls Tryz.prog 94 #[.pointer (some ⟨q,0,none⟩)] w (BGave q T bud C w fp):=by
 have CO:=Lib.hid (cbatches_at h _ (.inl rfl))
 clear h
 go_enter Tryz.func94,Tryz.ntmps94
 go_wp2_with fail
 refine CO.out.mono ?_
 intro r w1 h1
 have H1:=Lib.hid h1
 obtain⟨v,L,C1,fp1,fs,rfl,_,_,hown,_⟩:=h1
 obtain⟨A,c,rfl,_⟩:=own_slice hown
 clear hown CO
 go_wp2_with fail
 go_ret
 exact H1.out
theorem cdrain_at {q:Nat} {T:List Z.Cl} {bud:Int} {C:Int->Option CE} {w:World} {fp:List Nat} (h:CaSt q T bud C w fp):Calls Tryz.prog 99 #[.pointer (some ⟨q,0,none⟩)] w (BGave q T bud C w fp):=by
 have CO:=Lib.hid (cbatches_at h _ (.inr rfl))
 clear h
 go_enter Tryz.func99,Tryz.ntmps99
 go_wp2_with fail
 refine CO.out.mono ?_
 intro r w1 h1
 have H1:=Lib.hid h1
 obtain⟨v,L,C1,fp1,fs,rfl,_,_,hown,_⟩:=h1
 obtain⟨A,c,rfl,_⟩:=own_slice hown
 clear hown CO
 go_wp2_with fail
 go_ret
 exact H1.out
inductive Ph where
 |none
 |take (k:Nat)
 |transfer (k:Nat) (want:Int)
 |central (k:Nat) (want:Int)
 |grow (k:Nat) (want:Int)
 |fill
 |large (n:Nat)
 |find (a:Int)
 |put (k:Nat) (a:Int)
 |back
 |give (s a:Int)
 |drain
def Ph.val:Ph->Value
 | .none=>.nilIface
 | .take k=>.iface 191 (.agg #[.int .i64 k])
 | .transfer k n=>.iface 194 (.agg #[.int .i64 k,.int .i64 n])
 | .central k n=>.iface 200 (.agg #[.int .i64 k,.int .i64 n])
 | .grow k n=>.iface 202 (.agg #[.int .i64 k,.int .i64 n])
 | .fill=>.iface 199 (.agg #[])
 | .large n=>.iface 208 (.agg #[.int .i64 n])
 | .find a=>.iface 211 (.agg #[.int .i64 a])
 | .put k a=>.iface 214 (.agg #[.int .i64 k,.int .i64 a])
 | .back=>.iface 217 (.agg #[])
 | .give s a=>.iface 221 (.agg #[.int .i64 s,.int .i64 a])
 | .drain=>.iface 222 (.agg #[])
structure Bk where
 size:Int
 cls:Int
 ar:Int
def lvG (lv:Int->Option Bk):Int->Option Value:=fun a=>(lv a).map fun b=>.agg #[.int .i64 a,.int .i64 b.size,.int .i64 b.cls,.int .i64 b.ar]
structure Hp where
 h:Nat
 T:List Z.Cl
 bud:Int
 room:Int
 na:Nat
 nt:Nat
 ta:Addr
 tc:Nat
 sp:Nat
 gA:Nat
 cA:Nat
 gT:Nat
 cT:Nat
 gL:Nat
 ar:Nat->Nat
 ata:Nat->Addr
 atc:Nat->Nat
 bd:Nat->Nat
 hu:Nat->Nat
 pm:Nat->Nat
 rn:Nat->Nat
 gc:Nat->Nat
 cc:Nat->Nat
 gx:Nat->Nat
 cx:Nat->Nat
 ce:Nat->Nat->Nat
 tr:Nat->Nat->Nat
 cq:Nat->Nat
def Hp.cl (P:Hp) (k:Nat):Cl:=⟨(Z.cAt P.T k).s,(Z.cAt P.T k).p,(Z.cAt P.T k).b⟩
structure HS where
 sp:V.SpM
 B:Nat->Nat->Int->Bool
 L:Nat->Nat->Int
 R:Nat->Int->Option Int
 M:Nat->Nat->List Sp
 X:Nat->Nat->List Bt
 C:Nat->Int->Option CE
 H:Nat->List HB
 hv:Nat->Value
 ph:Nat->Ph
 lv:Int->Option Bk
def upd {α:Type} (f:Nat->α) (a:Nat) (x:α):Nat->α:=fun j=>if j=a then x else f j
def upd2 {α:Type} (f:Nat->Nat->α) (a k:Nat) (x:α):Nat->Nat->α:=fun j m=>if j=a/\m=k then x else f j m
theorem upd_at {α:Type} {f:Nat->α} {a:Nat} {x:α}:upd f a x a=x:=if_pos rfl
theorem upd_ne {α:Type} {f:Nat->α} {a j:Nat} {x:α} (h:j≠a):upd f a x j=f j:=if_neg h
theorem upd2_at {α:Type} {f:Nat->Nat->α} {a k:Nat} {x:α}:upd2 f a k x a k=x:=if_pos ⟨rfl,rfl⟩
theorem upd2_ne {α:Type} {f:Nat->Nat->α} {a k j m:Nat} {x:α} (h:¬(j=a/\m=k)):upd2 f a k x j m=f j m:=if_neg h
structure Arec (P:Hp) (a:Nat) (w:World) (fp:List Nat):Prop where
 blk:Blk w (P.ar a) 140 #[.slice (some (P.ata a)) P.T.length (P.atc a),.pointer (some ⟨P.sp,0,none⟩),.pointer (some ⟨P.bd a,0,none⟩),.pointer (some ⟨P.hu a,0,none⟩),.pointer (some ⟨P.pm a,0,none⟩),.slice (some ⟨P.gc a,0,none⟩) P.T.length (P.cc a),.slice (some ⟨P.gx a,0,none⟩) P.T.length (P.cx a),.map (some (P.rn a))]
 tab:Z.ReadsC w (some (P.ata a)) P.T.length P.T
 tc:P.T.length<=P.atc a
 rc:V.Row w (P.gc a) P.T.length (fun k=>.pointer (some ⟨P.ce a k,0,none⟩))
 cc:P.T.length<=P.cc a
 rx:V.Row w (P.gx a) P.T.length (fun k=>.pointer (some ⟨P.tr a k,0,none⟩))
 cx:P.T.length<=P.cx a
 mem:P.ar a∈fp/\(P.ata a).block∈fp/\P.gc a∈fp/\P.gx a∈fp
structure Hrec (P:Hp) (w:World) (fp:List Nat):Prop where
 blk:Blk w P.h 90 #[.slice (some P.ta) P.T.length P.tc,.int .i64 256,.int .i64 P.na,.int .i64 P.nt,.int .i64 P.bud,.int .i64 P.room,.pointer (some ⟨P.sp,0,none⟩),.slice (some ⟨P.gA,0,none⟩) P.na P.cA,.slice (some ⟨P.gT,0,none⟩) P.nt P.cT,.map (some P.gL)]
 isT:Z.isTable P.T
 tab:Z.ReadsC w (some P.ta) P.T.length P.T
 tc:P.T.length<=P.tc
 ra:V.Row w P.gA P.na (fun a=>.pointer (some ⟨P.ar a,0,none⟩))
 cA:P.na<=P.cA
 cT:P.nt<=P.cT
 na:1<=P.na/\P.na<=4
 nt:1<=P.nt/\P.nt<=4
 bb:0<=P.bud/\P.bud<=65536
 rr:0<=P.room/\P.room<=8
 mem:P.h∈fp/\P.ta.block∈fp/\P.gA∈fp
 ars:∀a,a<P.na->Arec P a w fp
 lt:∀b∈fp,b<w.heap.size
theorem Arec.only {P:Hp} {a:Nat} {w w':World} {fp l:List Nat} (h:Arec P a w fp) (ho:Only l w w') (hb:∀b∈fp,b∉l):Arec P a w' fp:=by
 obtain⟨h1,h2,h3,h4,h5,h6,h7,m1,m2,m3,m4⟩:=h
 exact⟨h1.only ho (hb _ m1),h2.only ho (fun ad e=>by cases e;exact hb _ m2),h3,h4.only ho (hb _ m3),h5,h6.only ho (hb _ m4),h7,m1,m2,m3,m4⟩
theorem Hrec.framed (P:Hp):Framed (Hrec P):=by
 constructor
 ·rintro w w' fp l ⟨h1,h2,h3,h4,h5,h6,h7,h8,h9,h10,h11,⟨m1,m2,m3⟩,h12,h13⟩ ho hb
  exact⟨h1.only ho (hb _ m1),h2,h3.only ho (fun ad e=>by cases e;exact hb _ m2),h4,h5.only ho (hb _ m3),h6,h7,h8,h9,h10,h11,⟨m1,m2,m3⟩,fun a ha=>(h12 a ha).only ho hb,fun b hb'=>Nat.lt_of_lt_of_le (h13 b hb') ho.size⟩
 ·exact fun h=>h.lt
def rowF (P:Hp) (hv:Nat->Value) (ph:Nat->Ph) (j:Nat):Value:=if j%3=0 then .pointer (some ⟨P.cq (j/3),0,none⟩) else if j%3=1 then hv (j/3) else(ph (j/3)).val
def RowSt (P:Hp) (hv:Nat->Value) (ph:Nat->Ph) (w:World) (fp:List Nat):Prop:=V.Row w P.gT (3*P.nt) (rowF P hv ph)/\fp=[P.gT]
theorem RowSt.framed (P:Hp) (hv:Nat->Value) (ph:Nat->Ph):Framed (RowSt P hv ph):=by
 constructor
 ·rintro w w' fp l ⟨h1,rfl⟩ ho hb
  exact⟨h1.only ho (hb _ (by simp)),rfl⟩
 ·rintro w fp ⟨h1,rfl⟩ b hb
  simp at hb
  exact hb▸h1.lt
def LivSt (g:Nat) (lv:Int->Option Bk) (w:World) (fp:List Nat):Prop:=(∃c,IMap w g (lvG lv) c)/\fp=[g]
theorem LivSt.framed (g:Nat) (lv:Int->Option Bk):Framed (LivSt g lv):=by
 constructor
 ·rintro w w' fp l ⟨⟨c,h1⟩,rfl⟩ ho hb
  exact⟨⟨c,h1.only ho (hb _ (by simp))⟩,rfl⟩
 ·rintro w fp ⟨⟨c,h1⟩,rfl⟩ b hb
  simp at hb
  exact hb▸h1.lt
def runG (R:Int->Option Int):Int->Option Value:=fun s=>(R s).map fun p=>.int .i64 p
def RunSt (g:Nat) (R:Int->Option Int) (w:World) (fp:List Nat):Prop:=(∃c,IMap w g (runG R) c)/\fp=[g]
theorem RunSt.framed (g:Nat) (R:Int->Option Int):Framed (RunSt g R):=by
 constructor
 ·rintro w w' fp l ⟨⟨c,h1⟩,rfl⟩ ho hb
  exact⟨⟨c,h1.only ho (hb _ (by simp))⟩,rfl⟩
 ·rintro w fp ⟨⟨c,h1⟩,rfl⟩ b hb
  simp at hb
  exact hb▸h1.lt
structure HaSt (n:Nat) (v:Value) (L:List HB) (w:World) (fp:List Nat):Prop where
 ex:∃A c fs,v=.slice A L.length c/\L.length<=c/\(A=none->L.length=0/\c=0)/\HRow w L fs/\(∀b∈fs,b∈fp)/\
  ∀b,A=some b->∃g off cs,b=⟨g,off,none⟩/\g∈fp/\g∉fs/\Blk w g 205 cs/\off+2*c<=cs.size/\∀j x,(cellsH L)[j]? =some x->cs[off+j]? =some x
 ok:∀b∈L,b.ok n
 ln:L.length<=100
 lt:∀b∈fp,b<w.heap.size
 nd:(L.map (fun b=>b.v.ownBlock)).Nodup
theorem HaSt.framed (n:Nat) (v:Value) (L:List HB):Framed (HaSt n v L):=by
 constructor
 ·rintro w w' fp l ⟨⟨A,c,fs,h1,h2,h3,h4,h5,h6⟩,h7,h8,h9,h10⟩ ho hb
  refine⟨⟨A,c,fs,h1,h2,h3,h4.only ho (fun b hb'=>hb b (h5 b hb')),h5,fun b hA=>?_⟩,h7,h8,fun b hb'=>Nat.lt_of_lt_of_le (h9 b hb') ho.size,h10⟩
  obtain⟨g,off,cs,e1,e2,e3,e4,e5,e6⟩:=h6 b hA
  exact⟨g,off,cs,e1,e2,e3,e4.only ho (hb _ e2),e5,e6⟩
 ·exact fun h=>h.lt
theorem HaSt.nil (n:Nat) (w:World):HaSt n (.slice none 0 0) [] w []:=⟨⟨none,0,[],rfl,Nat.le_refl _,fun _=>⟨rfl,rfl⟩,(fun b hb=>by cases hb),(fun b hb=>by cases hb),(fun b hb=>by cases hb)⟩,(fun b hb=>by cases hb),Nat.zero_le _,(fun b hb=>by cases hb),by simp⟩
inductive Ix where
 |stat
 |row
 |liv
 |spc
 |bud (a:Nat)
 |hug (a:Nat)
 |pmp (a:Nat)
 |run (a:Nat)
 |cen (a k:Nat)
 |tra (a k:Nat)
 |cac (t:Nat)
 |han (t:Nat)
 deriving DecidableEq
def gd (p:Prop) (St:World->List Nat->Prop):World->List Nat->Prop:=fun w fp=>(p->St w fp)/\∀b∈fp,b<w.heap.size
theorem gd.framed {p:Prop} {St:World->List Nat->Prop} (h:Framed St):Framed (gd p St):=by
 constructor
 ·rintro w w' fp l ⟨h1,h2⟩ ho hb
  exact⟨fun hp=>h.only (h1 hp) ho hb,fun b hb'=>Nat.lt_of_lt_of_le (h2 b hb') ho.size⟩
 ·rintro w fp ⟨_,h2⟩ b hb
  exact h2 b hb
theorem gd.in_ {p:Prop} {St:World->List Nat->Prop} {w:World} {fp:List Nat} (F:Framed St) (h:St w fp):gd p St w fp:=⟨fun _=>h,F.lt h⟩
theorem SpaceAt.framed (p:Nat) (m:V.SpM):Framed (fun w fp=>V.SpaceAt w p fp m):=⟨fun h ho hb=>h.only ho hb,fun h=>h.lt⟩
theorem ListSt.framed (p:Nat) (c:Cl) (M:List Sp):Framed (fun w fp=>ListSt w p fp c M):=⟨fun h ho hb=>h.only ho hb,fun h=>h.lt⟩
def St (P:Hp) (S:HS):Ix->World->List Nat->Prop
 | .stat=>Hrec P
 | .row=>RowSt P S.hv S.ph
 | .liv=>LivSt P.gL S.lv
 | .spc=>fun w fp=>V.SpaceAt w P.sp fp S.sp
 | .bud a=>gd (a<P.na) (BuSt (P.bd a) (S.B a))
 | .hug a=>gd (a<P.na) (HuSt 256 (P.hu a) (S.L a))
 | .pmp a=>gd (a<P.na) (PmSt (P.pm a))
 | .run a=>gd (a<P.na) (RunSt (P.rn a) (S.R a))
 | .cen a k=>gd (a<P.na/\k<P.T.length) (fun w fp=>ListSt w (P.ce a k) fp (P.cl k) (S.M a k))
 | .tra a k=>gd (a<P.na/\k<P.T.length) (TrSt (Z.cAt P.T k).b P.room (P.tr a k) (S.X a k))
 | .cac t=>gd (t<P.nt) (CaSt (P.cq t) P.T P.bud (S.C t))
 | .han t=>gd (t<P.nt) (HaSt P.T.length (S.hv t) (S.H t))
theorem St.framed (P:Hp) (S:HS) (i:Ix):Framed (St P S i):=by
 cases i with
 |stat=>exact Hrec.framed P
 |row=>exact RowSt.framed _ _ _
 |liv=>exact LivSt.framed _ _
 |spc=>exact SpaceAt.framed _ _
 |bud a=>exact gd.framed (BuSt.framed _ _)
 |hug a=>exact gd.framed (HuSt.framed _ _ _)
 |pmp a=>exact gd.framed (PmSt.framed _)
 |run a=>exact gd.framed (RunSt.framed _ _)
 |cen a k=>exact gd.framed (ListSt.framed _ _ _)
 |tra a k=>exact gd.framed (TrSt.framed _ _ _ _)
 |cac t=>exact gd.framed (CaSt.framed _ _ _ _)
 |han t=>exact gd.framed (HaSt.framed _ _ _)
structure HSys (P:Hp) (S:HS) (w:World) (FP:List Nat):Prop where
 env:V.Env w
 ge3:∀b∈FP,3<=b
 lt:∀b∈FP,b<w.heap.size
 ex:∃fp:Ix->List Nat,(∀i,St P S i w (fp i))/\(∀i j,i≠j->∀b∈fp i,b∉fp j)/\∀i,∀b∈fp i,b∈FP
theorem HSys.only {P:Hp} {S:HS} {w w':World} {FP l:List Nat} (h:HSys P S w FP) (ho:Only l w w') (hb:∀b∈FP,b∉l) (h3:∀b∈l,3<=b):HSys P S w' FP:=by
 obtain⟨h1,h2,h4,fp,h5,h6,h7⟩:=h
 exact⟨h1.only ho h3,h2,fun b hb'=>Nat.lt_of_lt_of_le (h4 b hb') ho.size,fp,fun i=>(St.framed P S i).only (h5 i) ho (fun b hb'=>hb b (h7 i b hb')),h6,h7⟩
theorem HSys.still {P:Hp} {S:HS} {w w':World} {FP:List Nat} (h:HSys P S w FP) (ho:Only [] w w'):HSys P S w' FP:=h.only ho (by simp) (by simp)
theorem HSys.big {P:Hp} {S:HS} {w:World} {FP:List Nat} (h:HSys P S w FP):3<=w.heap.size:=by
 have:=V.Env.c0 h.env
 have:=World.block_lt_of_cell? w _ this
 exact this
theorem HSys.turn {P:Hp} {S:HS} {w:World} {FP:List Nat} (h:HSys P S w FP) (i:Ix):∃f,St P S i w f/\(∀b∈f,b∈FP)/\∀S' w' f',(∀j,j≠i->St P S' j=St P S j)->Only f w w'->St P S' i w' f'->
 (∀b∈f',b∈f\/(b∉FP/\3<=b))->HSys P S' w' (FP.filter (fun b=>decide (b∉f))++f'):=by
 obtain⟨h1,h2,h4,fp,h5,h6,h7⟩:=h
 refine⟨fp i,h5 i,h7 i,fun S' w' f' hS ho hf hn=>?_⟩
 have h3f:∀b∈fp i,3<=b:=fun b hb=>h2 b (h7 i b hb)
 refine⟨h1.only ho h3f,fun b hb=>?_,fun b hb=>?_,fun j=>if j=i then f' else fp j,fun j=>?_,fun j k hjk b hb=>?_,fun j b hb=>?_⟩
 ·rcases List.mem_append.1 hb with h|h
  ·exact h2 b (List.mem_filter.1 h).1
  ·rcases hn b h with h|h
   ·exact h3f b h
   ·exact h.2
 ·rcases List.mem_append.1 hb with h|h
  ·exact Nat.lt_of_lt_of_le (h4 b (List.mem_filter.1 h).1) ho.size
  ·exact(St.framed P S' i).lt hf b h
 ·show St P S' j w' (if j=i then f' else fp j)
  by_cases e:j=i
  ·subst e;rw[if_pos rfl];exact hf
  ·rw[if_neg e,hS j e]
   exact(St.framed P S j).only (h5 j) ho (h6 j i e)
 ·by_cases e1:j=i
  ·simp only[if_pos e1] at hb
   have e2:k≠i:=fun e=>hjk (e1.trans e.symm)
   simp only[if_neg e2]
   intro hb2
   rcases hn b hb with h|h
   ·exact h6 i k (Ne.symm e2) b h hb2
   ·exact h.1 (h7 k b hb2)
  ·simp only[if_neg e1] at hb
   by_cases e2:k=i
   ·simp only[if_pos e2]
    intro hb2
    rcases hn b hb2 with h|h
    ·exact h6 j i e1 b hb h
    ·exact h.1 (h7 j b hb)
   ·simp only[if_neg e2]
    exact h6 j k hjk b hb
 ·by_cases e:j=i
  ·simp only[if_pos e] at hb
   exact List.mem_append_right _ hb
  ·simp only[if_neg e] at hb
   exact List.mem_append_left _ (List.mem_filter.2 ⟨h7 j b hb,decide_eq_true (h6 j i e b hb)⟩)
theorem HSys.turns {P:Hp} {S:HS} {w:World} {FP:List Nat} (h:HSys P S w FP) (i:Ix):∃f,St P S i w f/\(∀b∈f,b∈FP)/\∀S' w',(∀j,j≠i->St P S' j=St P S j)->Turns (St P S' i) w f w'->Turns (HSys P S') w FP w':=by
 obtain⟨f,h1,h2,h3⟩:=h.turn i
 have h8:=h.big
 refine⟨f,h1,h2,fun S' w' hS ⟨ho,f',hf,hn⟩=>⟨ho.mono h2,_,h3 S' w' f' hS ho hf (fun b hb=>?_),fun b hb=>?_⟩⟩
 ·rcases hn b hb with h4|h4
  ·exact .inl h4
  ·exact .inr ⟨fun h5=>by have:=h.lt b h5;omega,by omega⟩
 ·rcases List.mem_append.1 hb with h4|h4
  ·exact .inl (List.mem_filter.1 h4).1
  ·rcases hn b h4 with h4|h4
   ·exact .inl (h2 b h4)
   ·exact .inr h4
theorem HSys.gives {P:Hp} {S:HS} {w:World} {FP:List Nat} (h:HSys P S w FP) (i:Ix):∃f,St P S i w f/\(∀b∈f,b∈FP)/\∀S' Sn w',(∀j,j≠i->St P S' j=St P S j)->Gives (St P S' i) Sn w f w'->Gives (HSys P S') Sn w FP w':=by
 obtain⟨f,h1,h2,h3⟩:=h.turn i
 have h8:=h.big
 refine⟨f,h1,h2,fun S' Sn w' hS ⟨ho,f',fs,hf,hs,hn,hm⟩=>⟨ho.mono h2,_,fs,h3 S' w' f' hS ho hf (fun b hb=>?_),hs,fun b hb=>?_,fun b hb=>⟨?_,fun h4=>?_⟩⟩⟩
 ·rcases hn b hb with h4|h4
  ·exact .inl h4
  ·exact .inr ⟨fun h5=>by have:=h.lt b h5;omega,by omega⟩
 ·rcases List.mem_append.1 hb with h4|h4
  ·exact .inl (List.mem_filter.1 h4).1
  ·rcases hn b h4 with h4|h4
   ·exact .inl (h2 b h4)
   ·exact .inr h4
 ·rcases (hm b hb).1 with h4|h4
  ·exact .inl (h2 b h4)
  ·exact .inr h4
 ·rcases List.mem_append.1 h4 with h5|h5
  ·obtain⟨h6,h7⟩:=List.mem_filter.1 h5
   rcases (hm b hb).1 with h9|h9
   ·exact of_decide_eq_true h7 h9
   ·have:=h.lt b h6;omega
  ·exact(hm b hb).2 h5
theorem St_B (P:Hp) (S:HS) (a:Nat) (x:Nat->Int->Bool):∀j,j≠ .bud a->St P {S with B:=upd S.B a x} j=St P S j:=by
 intro j hj
 cases j with
 |bud a'=>simp only[St];rw[upd_ne (fun e=>hj (by rw[e]))]
 |_=>rfl
theorem St_L (P:Hp) (S:HS) (a:Nat) (x:Nat->Int):∀j,j≠ .hug a->St P {S with L:=upd S.L a x} j=St P S j:=by
 intro j hj
 cases j with
 |hug a'=>simp only[St];rw[upd_ne (fun e=>hj (by rw[e]))]
 |_=>rfl
theorem St_R (P:Hp) (S:HS) (a:Nat) (x:Int->Option Int):∀j,j≠ .run a->St P {S with R:=upd S.R a x} j=St P S j:=by
 intro j hj
 cases j with
 |run a'=>simp only[St];rw[upd_ne (fun e=>hj (by rw[e]))]
 |_=>rfl
theorem St_M (P:Hp) (S:HS) (a k:Nat) (x:List Sp):∀j,j≠ .cen a k->St P {S with M:=upd2 S.M a k x} j=St P S j:=by
 intro j hj
 cases j with
 |cen a' k'=>simp only[St];rw[upd2_ne (fun e=>hj (by rw[e.1,e.2]))]
 |_=>rfl
theorem St_X (P:Hp) (S:HS) (a k:Nat) (x:List Bt):∀j,j≠ .tra a k->St P {S with X:=upd2 S.X a k x} j=St P S j:=by
 intro j hj
 cases j with
 |tra a' k'=>simp only[St];rw[upd2_ne (fun e=>hj (by rw[e.1,e.2]))]
 |_=>rfl
theorem St_C (P:Hp) (S:HS) (t:Nat) (x:Int->Option CE):∀j,j≠ .cac t->St P {S with C:=upd S.C t x} j=St P S j:=by
 intro j hj
 cases j with
 |cac a'=>simp only[St];rw[upd_ne (fun e=>hj (by rw[e]))]
 |_=>rfl
theorem St_lv (P:Hp) (S:HS) (x:Int->Option Bk):∀j,j≠ .liv->St P {S with lv:=x} j=St P S j:=by
 intro j hj
 cases j<;>first|rfl|exact absurd rfl hj
theorem St_sp (P:Hp) (S:HS) (x:V.SpM):∀j,j≠ .spc->St P {S with sp:=x} j=St P S j:=by
 intro j hj
 cases j<;>first|rfl|exact absurd rfl hj
theorem St_ph (P:Hp) (S:HS) (x:Nat->Ph):∀j,j≠ .row->St P {S with ph:=x} j=St P S j:=by
 intro j hj
 cases j<;>first|rfl|exact absurd rfl hj
theorem HSys.stat {P:Hp} {S:HS} {w:World} {FP:List Nat} (h:HSys P S w FP):∃f,Hrec P w f/\∀b∈f,b∈FP:=by
 obtain⟨f,h1,h2,_⟩:=h.turn .stat
 exact⟨f,h1,h2⟩
theorem HSys.isT {P:Hp} {S:HS} {w:World} {FP:List Nat} (h:HSys P S w FP):Z.isTable P.T:=by obtain⟨f,h1,_⟩:=h.stat;exact h1.isT
structure Acells (P:Hp) (a:Nat) (w:World):Prop where
 c0:w.cell? ⟨P.ar a,0,none⟩=some (.slice (some (P.ata a)) P.T.length (P.atc a))
 c1:w.cell? ⟨P.ar a,1,none⟩=some (.pointer (some ⟨P.sp,0,none⟩))
 c2:w.cell? ⟨P.ar a,2,none⟩=some (.pointer (some ⟨P.bd a,0,none⟩))
 c3:w.cell? ⟨P.ar a,3,none⟩=some (.pointer (some ⟨P.hu a,0,none⟩))
 c4:w.cell? ⟨P.ar a,4,none⟩=some (.pointer (some ⟨P.pm a,0,none⟩))
 c5:w.cell? ⟨P.ar a,5,none⟩=some (.slice (some ⟨P.gc a,0,none⟩) P.T.length (P.cc a))
 c6:w.cell? ⟨P.ar a,6,none⟩=some (.slice (some ⟨P.gx a,0,none⟩) P.T.length (P.cx a))
 c7:w.cell? ⟨P.ar a,7,none⟩=some (.map (some (P.rn a)))
theorem HSys.acells {P:Hp} {S:HS} {w:World} {FP:List Nat} (h:HSys P S w FP) {a:Nat} (ha:a<P.na):Acells P a w:=by
 obtain⟨f,h1,_⟩:=h.stat
 obtain⟨b,_⟩:=h1.ars a ha
 exact⟨b.cell_ 0 rfl,b.cell_ 1 rfl,b.cell_ 2 rfl,b.cell_ 3 rfl,b.cell_ 4 rfl,b.cell_ 5 rfl,b.cell_ 6 rfl,b.cell_ 7 rfl⟩
theorem HSys.arow {P:Hp} {S:HS} {w:World} {FP:List Nat} (h:HSys P S w FP) {a k:Nat} (ha:a<P.na) (hk:k<P.T.length):w.cell? ⟨P.gc a,k,none⟩=some (.pointer (some ⟨P.ce a k,0,none⟩))/\w.cell? ⟨P.gx a,k,none⟩=some (.pointer (some ⟨P.tr a k,0,none⟩)):=by
 obtain⟨f,h1,_⟩:=h.stat
 obtain⟨b,_,_,r1,_,r2,_⟩:=h1.ars a ha
 exact⟨r1.cell hk,r2.cell hk⟩
theorem HSys.atab {P:Hp} {S:HS} {w:World} {FP:List Nat} (h:HSys P S w FP) {a k:Nat} (ha:a<P.na) (hk:k<P.T.length):w.cell? ((P.ata a).add (k*3))=some (.int .i64 (Z.cAt P.T k).s)/\w.cell? ⟨((P.ata a).add (k*3)).block,((P.ata a).add (k*3)).off+1,none⟩=some (.int .i64 (Z.cAt P.T k).p)/\
 w.cell? ⟨((P.ata a).add (k*3)).block,((P.ata a).add (k*3)).off+2,none⟩=some (.int .i64 (Z.cAt P.T k).b)/\(Z.cAt P.T k).ok/\P.T.length<=P.atc a/\P.T.length<=P.cc a/\P.T.length<=P.cx a:=by
 obtain⟨f,h1,_⟩:=h.stat
 obtain⟨b,t,t1,_,t2,_,t3,_⟩:=h1.ars a ha
 obtain⟨ad,e,c1,c2,c3⟩:=t.at_ hk
 injection e with e
 subst e
 exact⟨c1,c2,c3,(h1.isT.2.2 k hk).1,t1,t2,t3⟩
theorem amade_at {P:Hp} {S:HS} {w:World} {FP:List Nat} (h:HSys P S w FP) {a:Nat} (ha:a<P.na):Still Tryz.prog 111 #[.pointer (some ⟨P.ar a,0,none⟩)] w (.bool true):=by
 have z1:=(h.acells ha).c1
 clear h
 go_enter Tryz.func111,Tryz.ntmps111
 go_wp2_with fail
 go_ret
 exact⟨rfl,rfl⟩
theorem acheck_at {P:Hp} {S:HS} {w:World} {FP:List Nat} (h:HSys P S w FP) {a k:Nat} (ha:a<P.na) (hk:k<P.T.length):Still Tryz.prog 104 #[.pointer (some ⟨P.ar a,0,none⟩),.int .i64 k] w (.int .i64 0):=by
 have CM:=Lib.hid (amade_at h ha)
 have z0:=(h.acells ha).c0
 have hn:=h.isT.2.1
 clear h
 generalize P.T.length=n at *
 have d1:decide ((k:Int)<0)=false:=decide_eq_false (by omega)
 have d2:decide ((n:Int)<=k)=false:=decide_eq_false (by omega)
 have d2':decide (n<=k)=false:=decide_eq_false (by omega)
 go_enter Tryz.func104,Tryz.ntmps104
 go_wp2_with (first|(go_at_call 111;with_reducible refine Still.use CM.out ?_))
 go_ret
 exact⟨rfl,rfl⟩
theorem aowns_at {P:Hp} {S:HS} {w:World} {FP:List Nat} (h:HSys P S w FP) {a:Nat} (ha:a<P.na) (page:Int):Still Tryz.prog 128 #[.pointer (some ⟨P.ar a,0,none⟩),.int .i64 page] w (.bool (decide (0<=page/\page<256/\S.L a page.toNat≠0))):=by
 have CM:=Lib.hid (amade_at h ha)
 have z3:=(h.acells ha).c3
 obtain⟨f,hf,_⟩:=h.turn (.hug a)
 have hh:HuSt 256 (P.hu a) (S.L a) w f:=hf.1 ha
 have CS:=Lib.hid (HState_at hh page)
 have h3:=hh.l3 page.toNat
 clear hf hh h
 obtain⟨u,hu⟩:∃u,u=(if 0<=page/\page<(256:Nat) then S.L a page.toNat else -1):=⟨_,rfl⟩
 rw[<-hu] at CS
 have e:Hid (decide ((0:Int)<u)=decide (0<=page/\page<256/\S.L a page.toNat≠0)):=by
  refine decide_eq_decide.2 ?_
  rw[hu]
  split
  ·constructor
   ·intro h;exact⟨by omega,by omega,by omega⟩
   ·rintro ⟨_,_,h⟩;omega
  ·constructor
   ·intro h;omega
   ·rintro ⟨_,_,_⟩;omega
 clear hu h3
 generalize decide (0<=page/\page<256/\S.L a page.toNat≠0)=r at *
 have e2:=e.out
 go_enter Tryz.func128,Tryz.ntmps128
 go_wp2_with (first|(go_at_call 111;with_reducible refine Still.use CM.out ?_)|(go_at_call 151;with_reducible refine Still.use CS.out ?_))
 go_ret
 exact⟨rfl,rfl⟩
theorem afromT_at {P:Hp} {S:HS} {w:World} {FP:List Nat} (h:HSys P S w FP) {a k:Nat} (ha:a<P.na) (hk:k<P.T.length):Calls Tryz.prog 85 #[.pointer (some ⟨P.ar a,0,none⟩),.int .i64 k] w fun e w'=>
 (S.X a k=[]/\e=.returned (.tuple #[.slice none 0 0,.int .i64 4])/\Only [] w w')\/
 (∃v b,(S.X a k).getLast?=some b/\e=.returned (.tuple #[v,.int .i64 0])/\Gives (HSys P {S with X:=upd2 S.X a k (S.X a k).dropLast}) (OSt v b.2) w FP w'):=by
 have CK:=Lib.hid (acheck_at h ha hk)
 have z6:=(h.acells ha).c6
 have r6:=(h.arow ha hk).2
 have hn:=h.isT.2.1
 obtain⟨f,hf,hff,hg⟩:=h.gives (.tra a k)
 have CR:=Lib.hid (TRemove_at (hf.1 ⟨ha,hk⟩))
 have HG:=Lib.hid hg
 have HF:=Lib.hid hf
 have HK:=Lib.hid (And.intro ha hk)
 obtain⟨_,_,_,_,_,_,hcx⟩:=h.atab ha hk
 clear h hf hff hg ha
 generalize P.T.length=n at *
 go_enter Tryz.func85,Tryz.ntmps85
 go_wp2_with (first|(go_at_call 104;with_reducible refine Still.use CK.out ?_))
 refine CR.out.mono ?_
 rintro r w1 (⟨h0,rfl,rfl⟩|⟨v,b,h1,rfl,h3,h4,h5,fp',h6,h7,h8⟩)
 ·have H0:=Lib.hid h0
  clear h0
  go_wp2_with fail
  go_ret2
  exact .inl ⟨H0.out,rfl,Only.refl _ _⟩
 ·have H:=Lib.hid (And.intro h1 (And.intro h3 (And.intro h4 (And.intro h5 (And.intro h6 (And.intro h7 h8))))))
  obtain⟨⟨off,cap,rfl,_,_⟩,_⟩:=h3
  clear h1 h4 h5 h6 h7 h8 CR
  go_wp2_with fail
  go_ret2
  obtain⟨h1,h3,h4,h5,h6,h7,h8⟩:=H.out
  refine .inr ⟨.slice (some ⟨b.1,off,none⟩) b.2.length cap,b,h1,rfl,HG.out _ _ _ (St_X P S a k _) ⟨h5,fp',[b.1],⟨fun _=>?_,fun x hx=>(TrSt.framed _ _ _ _).lt h6 x hx⟩,⟨?_,fun x hx=>?_⟩,fun x hx=>.inl (h8 x hx),fun x hx=>?_⟩⟩
  ·show TrSt _ _ _ (upd2 S.X a k _ a k) _ _
   rw[upd2_at];exact h6
  ·rcases Nat.eq_zero_or_pos b.2.length with h|h
   ·have e:b.2=[]:=List.eq_nil_of_length_eq_zero h
    exact .inl ⟨e,some ⟨b.1,off,none⟩,cap,by rw[h],fun e=>by cases e⟩
   ·exact .inr ⟨h,b.1,by simp,h3⟩
  ·simp at hx;subst hx;exact h3.lt
  ·simp at hx;subst hx;exact⟨.inl h4,h7⟩
theorem afromC_at {P:Hp} {S:HS} {w:World} {FP:List Nat} (h:HSys P S w FP) {a k:Nat} (ha:a<P.na) (hk:k<P.T.length) (m:Int) (hm:0<=m):Calls Tryz.prog 87 #[.pointer (some ⟨P.ar a,0,none⟩),.int .i64 k,.int .i64 m] w fun e w'=>
 ∃v,e=.returned (.tuple #[v,.int .i64 0])/\Gives (HSys P {S with M:=upd2 S.M a k (takesTo (S.M a k) m.toNat).2}) (OSt v (takesTo (S.M a k) m.toNat).1) w FP w':=by
 have CK:=Lib.hid (acheck_at h ha hk)
 have z5:=(h.acells ha).c5
 have r5:=(h.arow ha hk).1
 have hn:=h.isT.2.1
 obtain⟨f,hf,hff,hg⟩:=h.gives (.cen a k)
 have hl:ListSt w (P.ce a k) f (P.cl k) (S.M a k):=hf.1 ⟨ha,hk⟩
 have CR:=Lib.hid (lTake_at hl m)
 have HG:=Lib.hid hg
 have HL:=Lib.hid hl
 have HK:=Lib.hid (And.intro ha hk)
 have HM:=Lib.hid hm
 obtain⟨_,_,_,_,_,hcc,_⟩:=h.atab ha hk
 clear h hf hff hg ha hl hm
 generalize P.T.length=n at *
 go_enter Tryz.func87,Tryz.ntmps87
 go_wp2_with (first|(go_at_call 104;with_reducible refine Still.use CK.out ?_))
 refine CR.out.mono ?_
 rintro r w1 ⟨h1,_,h2⟩
 obtain⟨v,rfl,h3,h4⟩:=h2 HM.out
 have H:=Lib.hid (And.intro h1 (And.intro h3 h4))
 obtain⟨A,c,rfl,_⟩:=own_slice h4
 clear h1 h2 h3 h4 CR
 go_wp2_with fail
 go_ret2
 obtain⟨h1,h3,h4⟩:=H.out
 have hlt:=HL.out.lt
 refine⟨_,rfl,HG.out _ _ _ (St_M P S a k _) ⟨h1,f,(Value.ownBlock (.slice A _ c)).toList,⟨fun _=>?_,h3.lt⟩,⟨OSl.of_own h4 rfl,fun x hx=>own_lt' h4 x (Option.mem_toList.1 hx)⟩,fun x hx=>.inl hx,fun x hx=>?_⟩⟩
 ·show ListSt _ _ _ _ (upd2 S.M a k _ a k)
  rw[upd2_at];exact h3
 ·have:=own_base h4 x (Option.mem_toList.1 hx)
  exact⟨.inr this,fun hx2=>by have:=hlt x hx2;omega⟩
end Go.Proofs.YtcidjimefnhacaaGreatDoor
