/- TopSchedules, a part of the proof: FJ, GA. -/
import Derived.Test.YtcidjimefnhacaaGreatDoorM26
set_option linter.unusedVariables false
set_option linter.unusedSimpArgs false
namespace Go.Proofs.YtcidjimefnhacaaGreatDoor
open Go.RowKit
theorem info_sl0:(Tryz.prog.info? 37).map (fun i=>(i.zero,i.size,i.bytes))=some (some (.slice none 0 0),1,24):=by kernel_rfl
theorem bkCells {P:Hp} {Sc:HS} {w W:World} {FP:List Nat} {Ls:World->List Nat->Prop} {bx:List (Nat×TypeId×Array Value)} {b na j:Nat} {t:TypeId} {x y:Value} (hna:P.na=na) (hj:j<na) (h:Ctx P Sc w FP Ls ((b,t,#[x,y])::bx) W):
 W.cell? ⟨P.h,7,none⟩=some (.slice (some ⟨P.gA,0,none⟩) na P.cA)/\W.cell? ⟨P.gA,j,none⟩=some (.pointer (some ⟨P.ar j,0,none⟩))/\W.cell? ⟨b,0,none⟩=some x:=by
 obtain⟨FPc,hs⟩:=h.sys_
 have hb:=h.box (x:=(b,t,#[x,y])) (by simp)
 subst hna
 exact⟨hs.hcells.c7,hs.arp hj,hb.cell_ 0 rfl⟩
theorem bkCells2 {P:Hp} {Sc:HS} {w W:World} {FP:List Nat} {Ls:World->List Nat->Prop} {bx:List (Nat×TypeId×Array Value)} {b na j:Nat} {t:TypeId} {x y:Value} (hna:P.na=na) (hj:j<na) (h:Ctx P Sc w FP Ls ((b,t,#[x,y])::bx) W):
 W.cell? ⟨P.h,7,none⟩=some (.slice (some ⟨P.gA,0,none⟩) na P.cA)/\W.cell? ⟨P.gA,j,none⟩=some (.pointer (some ⟨P.ar j,0,none⟩))/\W.cell? ⟨b,0,none⟩=some x/\W.cell? ⟨b,1,none⟩=some y:=by
 obtain⟨h1,h2,h3⟩:=bkCells hna hj h
 exact⟨h1,h2,h3,(h.box (x:=(b,t,#[x,y])) (by simp)).cell_ 1 rfl⟩
set_option maxHeartbeats 8000000 in
theorem hback_at {P:Hp} {S:HS} {w W:World} {FP:List Nat} {v:Value} {o:List Int} {bx:List (Nat×TypeId×Array Value)} (hc:Ctx P S w FP (OSt v o) bx W) {own k:Nat} (hown:own<P.na) (hk:k<P.T.length) (h1:0<o.length/\o.length<=256) (hex:∀x∈o,(0<=x/\x<65536)/\∃a,a<P.na/\Ownd S a (x/256)) (hTO:∀a,a<P.na->∀l,(∀x,l.count x<=o.count x)->TOk S a k l):
 Calls Tryz.prog 97 #[.pointer (some ⟨P.h,0,none⟩),.int .i64 own,.agg #[.int .i64 k,v]] W fun e w'=>e=.returned (.tuple #[])/\∃S',BackD P S own k o S'/\Ctx P S' w FP NoL bx w':=by
 obtain⟨fs0,hos0⟩:=hc.part
 obtain⟨b0,off,cv,rfl,hcv⟩:∃b0 off cv,v=.slice (some ⟨b0,off,none⟩) o.length cv/\o.length<=cv:=by
  rcases hos0.1 with ⟨h,_⟩|⟨_,b0,_,⟨off,cv,e,hcv,_⟩,_⟩
  ·rw[h] at h1;simp at h1
  ·exact⟨b0,off,cv,e,hcv⟩
 have hcell:Hid (∀wr,Ctx P S w FP (OSt (.slice (some ⟨b0,off,none⟩) o.length cv) o) bx wr->∀i,i<o.length->wr.cell? ⟨b0,off+i,none⟩=some (.int .i64 (o.getD i 0))):=by
  intro wr hcw i hi
  obtain⟨fs,hos,_⟩:=hcw.part
  rcases hos with ⟨h,_⟩|⟨_,b1,_,⟨off1,cv1,e,_,hcl⟩,_⟩
  ·rw[h] at hi;simp at hi
  ·injection e with e1 _ _
   injection e1 with e1
   injection e1 with e1 e2 _
   subst e1 e2
   exact hcl i hi
 obtain⟨FP0,hs0⟩:=hc.sys_
 obtain⟨n1,n2,_,_,n3,_,n5,n6,_⟩:=hs0.nums
 obtain⟨i0,hi,hz0,hz1,hz2⟩:=info_parts info_int
 obtain⟨j0,hj,jz0,jz1,jz2⟩:=info_parts info_sl0
 have hmk:=fun W=>run_make (P:=Tryz.prog) W 181 37 j0 (.slice none 0 0) Tryz.underlying181 hj jz0 .i64 .i64 P.na P.na (by omega) (by omega) (by rw[jz2];omega) (by omega)
 simp only[Int.toNat_natCast,jz1,Nat.mul_one] at hmk
 have HC:=Lib.hid hc
 have HOWN:=Lib.hid hown
 have HK:=Lib.hid hk
 have HEX:=Lib.hid hex
 have HTO:=Lib.hid hTO
 have HL:=Lib.hid h1
 have hoA:=(Only.refl [] W).alloc (.cells #[.int .i64 k,.slice (some ⟨b0,off,none⟩) o.length cv] 205)
 have c1:=hc.still (OSt.framed _ _) hoA
 have z7:=c1.sys_.elim (fun FPd hs=>hs.hcells.c7)
 have HOL:Hid (∃ol,ol=o.length):=⟨_,rfl⟩
 have hLP0:Hid (LP P.na W k (.slice (some ⟨b0,off,none⟩) o.length cv) o 0 (fun _=>.slice none 0 0) (fun _=>[]) ((W.alloc (.cells #[.int .i64 k,.slice (some ⟨b0,off,none⟩) o.length cv] 205)).alloc (.cells (madeCells #[.slice none 0 0] P.na) 37))):=by
  have hoB:=(Only.refl [] (W.alloc (.cells #[.int .i64 k,.slice (some ⟨b0,off,none⟩) o.length cv] 205))).alloc (.cells (madeCells #[.slice none 0 0] P.na) 37)
  have hbk:=Blk.new (W.alloc (.cells #[.int .i64 k,.slice (some ⟨b0,off,none⟩) o.length cv] 205)) 37 (madeCells #[.slice none 0 0] P.na)
  rw[show(W.alloc (.cells #[.int .i64 k,.slice (some ⟨b0,off,none⟩) o.length cv] 205)).heap.size=W.heap.size+1 by simp] at hbk
  refine⟨hoA.trans hoB,(Blk.new W _ _).only hoB (by simp),⟨_,_,hbk,by simp[size_madeCells],fun j hj=>?_⟩,(fun j hj=>World.ownsRow_nil _ _ _ _),(fun _ _ _ _ _ g hg=>by cases hg),(fun x=>by rw[sumC_nil];simp),fun j hj=>Nat.zero_le _⟩
  simp[madeCells,hj,Nat.mod_one]
 clear hc hos0 hs0 hown hk hex hTO hoA c1 h1
 have hol256:=HL.out.2
 generalize hol:o.length=ol at *
 have HOLE:=Lib.hid hol
 clear hol
 generalize hna:P.na=na at *
 have HNA:=Lib.hid hna
 clear hna
 go_enter Tryz.func97,Tryz.ntmps97
 go_wp2_with fail
 go_loopw[23] (fun t wr=>∃i:Nat,i<=ol/\t=.int .i64 i/\∃pv pl,LP na W k (.slice (some ⟨b0,off,none⟩) ol cv) o i pv pl wr) (fun t _=>ol-(intOf t).toNat)
 case atStart=>exact⟨0,Nat.zero_le _,rfl,_,_,hLP0.out⟩
 case round=>
  obtain⟨i,hi',rfl,pv,pl,hLP⟩:=hrel
  have HLP:=Lib.hid hLP
  have hcW:=HC.out.still (OSt.framed _ _) hLP.ho
  have HCW:=Lib.hid hcW
  clear hLP0
  by_cases hlt:i<ol
  ·have d1:decide ((i:Int)<ol)=true:=decide_eq_true (by omega)
   have d1':decide (i<ol)=true:=decide_eq_true hlt
   have c1:=hcell.out wr hcW i hlt
   obtain⟨x,hx,hxm,hxe⟩:∃x,o.getD i 0=x/\x∈o/\o[i]? =some x:=⟨_,rfl,by rw[List.getD_eq_getElem?_getD,List.getElem?_eq_getElem (by rw[HOLE.out];exact hlt)];exact List.getElem_mem _,by rw[List.getD_eq_getElem?_getD,List.getElem?_eq_getElem (by rw[HOLE.out];exact hlt)];rfl⟩
   rw[hx] at c1
   obtain⟨hx0,hx1⟩:=HEX.out x hxm
   have HXE:=Lib.hid hxe
   obtain⟨FPc,hs⟩:=hcW.sys_
   have CO:=Lib.hid (howner_at hs x hx0 (by rw[HNA.out];exact hx1))
   have hln:=fun j hj=>HLP.out.ln j hj
   have HLN:=Lib.hid hln
   clear hx hxm hxe hcW hs hLP hx1 hln
   go_wp2_with fail
   refine CO.out.mono ?_
   rintro r w1 ⟨ho1,a,ha,rfl⟩
   rw[HNA.out] at ha
   have hrow:=(HLP.out.row.only ho1 (by simp)).cell ha
   have hoL:Only [] wr (w1.alloc (.cells #[.int .i64 x] 3)):=ho1.alloc _
   have hownA:=own_only (HLP.out.own a ha) hoL (by simp)
   have hsz:=hoL.size
   have hszW:=HLP.out.ho.size
   have hlna:=HLN.out a ha
   have hrl:=HLP.out.row.lt
   have HOL2:=Lib.hid hoL
   obtain⟨Aa,ca,ea,_⟩:=own_slice hownA
   have HEA:=Lib.hid ea
   rw[ea] at hrow hownA
   generalize hpl:(pl a).length=n at *
   have HPL:=Lib.hid hpl
   have HA:=Lib.hid ha
   have hrowA:(w1.alloc (.cells #[.int .i64 x] 3)).cell? ⟨W.heap.size+1,a,none⟩=some (.slice Aa n ca):=((Only.refl [] w1).alloc (.cells #[.int .i64 x] 3)).cell (p:=⟨W.heap.size+1,a,none⟩) (World.block_lt_of_cell? _ _ hrow) (by simp) |>.trans hrow
   have hfrA:=(((HLP.out.row.only ho1 (by simp)).alloc (.cells #[.int .i64 x] 3))).frozen a
   clear CO hoL ea hpl
   go_wp2_with (at_builtin;refine wpList_append_own_at _ rfl _ _ 37 rfl (W.heap.size+2) 3 i0 (.int .i64 0) 1 8 Tryz.underlying37 hi hz0 hz1 hz2 rfl (by decide) _ _ _ rfl hownA ⟨w1.heap.size,0,none⟩ 1 1 [.int .i64 x] rfl rfl (cell_new1 w1 _ _) (by simp[Value.oneCell']) (by unfold maxLen;omega) (by omega) (by omega) ?_;intro v5 w5 hown5 hg5 _ hv5;obtain⟨A5,c5,rfl,_⟩:=own_slice hown5;have hO5:Only (Value.ownBlock (.slice Aa n ca)).toList (w1.alloc (.cells #[.int .i64 x] 3)) w5:=(Only.refl _ _).grown hg5 (fun b hb=>.inl (Option.mem_toList.2 hb));have hgb:W.heap.size+1∉(Value.ownBlock (.slice Aa n ca)).toList:=(fun hm=>by have:=own_base hownA _ (Option.mem_toList.1 hm);omega);have y5:=(hO5.cell (p:=⟨W.heap.size+1,a,none⟩) (World.block_lt_of_cell? _ _ hrowA) hgb).trans hrowA;have f5:=(hO5.frozen (p:=⟨W.heap.size+1,a,none⟩) (World.block_lt_of_cell? _ _ hrowA) hgb).trans hfrA)
   have hLP2:=HLP.out.step HA.out HXE.out HOL2.out (v':=.slice A5 (n+1) c5) (w3:=w5) (by rw[HPL.out];exact hown5) (by rw[HEA.out];exact hg5) (by rw[HEA.out];exact hv5)
   go_roundw
   case rel=>exact⟨i+1,by omega,by go_num,_,_,hLP2⟩
   case measure=>simp[intOf];omega
  ·have e:i=ol:=by omega
   subst e
   have d1:decide ((i:Int)<i)=false:=decide_eq_false (by omega)
   obtain⟨fsP,hP,hPn,hPb⟩:=HLP.out.part
   have HB:Hid (Ctx P S w FP (Both (OSt (.slice (some ⟨b0,off,none⟩) i cv) o) (PSt na (W.heap.size+1) pv pl)) ((W.heap.size,205,#[.int .i64 k,.slice (some ⟨b0,off,none⟩) i cv])::bx) wr):=HC.out.fresh2 (OSt.framed _ _) HLP.out.ho hP hPn (Nat.le_refl _) hPb HLP.out.box
   have hownN:own<na:=HOWN.out
   have hownP:own<P.na:=by rw[HNA.out];exact HOWN.out
   have hq:=HLP.out.row.cell hownN
   obtain⟨Ao,co,eo,_⟩:=own_slice (HLP.out.own own hownN)
   rw[eo] at hq
   have x0:=HLP.out.box.cell_ 0 rfl
   have x1:=HLP.out.box.cell_ 1 rfl
   have CT:=Lib.hid (fun (W2:World) (hcc:Ctx P S w FP (Both (OSt (.slice (some ⟨b0,off,none⟩) i cv) o) (PSt na (W.heap.size+1) pv pl)) ((W.heap.size,205,#[.int .i64 k,.slice (some ⟨b0,off,none⟩) i cv])::bx) W2)=>hcc.callB (f:=118) (args:=#[.pointer (some ⟨P.ar own,0,none⟩),.int .i64 k,.slice (some ⟨b0,off,none⟩) i cv]) (α:=Bool×Int×Nat) (R:=fun x e=>e=.returned (.tuple #[.bool x.1,.int .i64 x.2.1])/\(x.1=true->x.2.1=0)) (S':=fun x=>if x.1=true then {S with X:=upd2 S.X own k (S.X own k++[(x.2.2,o)])} else S) (Both.framed (OSt.framed _ _) (PSt.framed _ _ _ _)) (fun FPc fs hs hL hd hbx=>by
    obtain⟨g1,g2,q1,q2,rfl⟩:=hL
    obtain⟨b9,hv9⟩:∃b9,ISl W2 (.slice (some ⟨b0,off,none⟩) i cv) b9 o:=by
     rcases q1.1 with ⟨h,_⟩|⟨_,b9,_,h⟩
     ·have:=HL.out.1;rw[<-HOLE.out,h] at this;simp at this
     ·exact⟨b9,h⟩
    refine(atoT_at hs hownP HK.out hv9 (fun x hx=>by have:=(HEX.out x hx).1;unfold I64;omega) (by rw[HOLE.out];exact HL.out.2)).mono ?_
    rintro e w' (⟨n,rfl,h2⟩|⟨rfl,b',h2⟩)
    ·exact⟨(false,n,0),⟨rfl,fun h=>by cases h⟩,Turns.in_ h2.of_nil (hs.still h2)⟩
    ·exact⟨(true,0,b'),⟨rfl,fun _=>rfl⟩,h2⟩))
   clear hP hPn hPb eo hcW
   generalize (pl own).length=no at *
   by_cases hno:no=i
   ·have hno2:=hno.symm
    subst hno2
    have hbq:((i:Int)==(i:Int))=true:=beq_iff_eq.2 rfl
    have hbq':(i==i)=true:=beq_iff_eq.2 rfl
    go_wp2_with fail
    go_region
    go_wp2_with fail
    have hbd:=HB.out.still (Both.framed (OSt.framed _ _) (PSt.framed _ _ _ _)) (((Only.refl [] wr).drew).drew)
    go_region_held3 (fun U=>U.cell? ⟨P.h,7,none⟩=some (.slice (some ⟨P.gA,0,none⟩) na P.cA)/\U.cell? ⟨P.gA,own,none⟩=some (.pointer (some ⟨P.ar own,0,none⟩))/\U.cell? ⟨W.heap.size,0,none⟩=some (.int .i64 k)/\U.cell? ⟨W.heap.size,1,none⟩=some (.slice (some ⟨b0,off,none⟩) i cv))
     (exact bkCells2 HNA.out hownN (by assumption))
     (first
      |(go_at_call 118;with_reducible refine Calls.mono (CT.out _ hbd) ?_;rintro _ wN ⟨⟨xB,nB,b'⟩,⟨rfl,hxB⟩,hbN⟩;clear hbd;have hbd:=hbN;clear hbN))
    cases xB
    ·clear hxB
     have HB:=Lib.hid (show Ctx P S w FP (Both (OSt (.slice (some ⟨b0,off,none⟩) i cv) o) (PSt na (W.heap.size+1) pv pl)) ((W.heap.size,205,#[.int .i64 k,.slice (some ⟨b0,off,none⟩) i cv])::bx) wN from hbd)
     clear hbd CT
     go_wp2_with fail
     go_loopw[72] (fun t wr2=>∃j:Nat,j<=na/\t=.int .i64 j/\∃B' L',BkR S k pl j B' L'/\Ctx P (S.bks k pl j B' L') w FP (Both (OSt (.slice (some ⟨b0,off,none⟩) i cv) o) (PSt na (W.heap.size+1) pv pl)) ((W.heap.size,205,#[.int .i64 k,.slice (some ⟨b0,off,none⟩) i cv])::bx) wr2) (fun t _=>na-(intOf t).toNat)
     case atStart=>exact⟨0,Nat.zero_le _,rfl,S.B,S.L,BkR.zero S k pl,by rw[HS.bks_zero];exact HB.out⟩
     case round=>
      obtain⟨j,hj',rfl,B',L',hBk,hB2⟩:=hrel
      have HBK:=Lib.hid hBk
      have HB2:=Lib.hid hB2
      have HBX2:=Lib.hid (hB2.box (mcs ..))
      by_cases hlt2:j<na
      ·have d2:decide ((j:Int)<na)=true:=decide_eq_true (by omega)
       have d2':decide (j<na)=true:=decide_eq_true hlt2
       obtain⟨fsj,f1,f2,hO,hP2,_⟩:=hB2.part
       have hcj:=hP2.1.1.cell hlt2
       obtain⟨Aj,cj,ej,hcj2,_⟩:=(hP2.1.2.2 j hlt2).form
       rw[ej] at hcj
       have HEJ:=Lib.hid ej
       have hnil:Hid (pl j=[]↔(pl j).length=0):=List.length_eq_zero_iff.symm
       have hlnj:=HLP.out.ln j hlt2
       have CP:=Lib.hid (fun (W2:World) (hcc:Ctx P (S.bks k pl j B' L') w FP (Both (OSt (.slice (some ⟨b0,off,none⟩) i cv) o) (PSt na (W.heap.size+1) pv pl)) ((W.heap.size,205,#[.int .i64 k,.slice (some ⟨b0,off,none⟩) i cv])::bx) W2)=>hcc.callB (f:=119) (args:=#[.pointer (some ⟨P.ar j,0,none⟩),.int .i64 k,.slice Aj (pl j).length cj]) (α:=(Nat->Int->Bool)×(Nat->Int)) (R:=fun x e=>(∃n,e=.returned (.int .i64 n))/\(∀y,bF x.1 y↔bF (S.B j) y\/∃q,q<(putR (S.M j k) (pl j)).length/\(rAt (putR (S.M j k) (pl j)) q).1<=y/\y<(rAt (putR (S.M j k) (pl j)) q).1+(rAt (putR (S.M j k) (pl j)) q).2)/\SameL (S.L j) x.2) (S':=fun x=>({S.bks k pl j B' L' with M:=upd2 (S.bks k pl j B' L').M j k (putM (S.M j k) (pl j))}:HS).bk j x.1 x.2) (Both.framed (OSt.framed _ _) (PSt.framed _ _ _ _)) (fun FPc fs hs hL hd hbx=>by
        obtain⟨g1,g2,q1,q2,rfl⟩:=hL
        obtain⟨t1,t2,t3⟩:=bks_at hBk
        have tk:=HTO.out j (by first|exact hlt2|(rw[HNA.out];exact hlt2)) (pl j) (fun x=>by have:=sumC_le pl hlt2 x;rw[HLP.out.cnt x,<-HOLE.out,List.take_length] at this;exact this)
        have hv:=q2.1.2.2 j hlt2
        rw[ej] at hv
        refine(atoC_at hs (by rw[HNA.out];exact hlt2) HK.out hv (fun b hb=>hd b (List.mem_append_right _ hb)) (fun x hx=>?_) (by omega) (by rw[t1];exact tk.len) (by rw[t1];exact tk.ok) (by rw[t1];exact tk.ap) (by rw[t1,t2];exact tk.fr)).mono ?_
        ·have h8:0<(pl j).count x:=List.count_pos_iff.2 hx
         have h9:=sumC_le pl hlt2 x
         rw[HLP.out.cnt x,<-HOLE.out,List.take_length] at h9
         have:=(HEX.out x (List.count_pos_iff.1 (by omega))).1
         unfold I64;omega
        ·rintro e w' ⟨hn,B2,L2,h2,h3,h4⟩
         rw[t1] at h2 h3
         rw[t2] at h3
         rw[t3] at h4
         exact⟨(B2,L2),⟨hn,h3,h4⟩,h2⟩))
       have HBKP:=Lib.hid (fun (hne:pl j≠ []) (B2:Nat->Int->Bool) (L2:Nat->Int) hb hl=>hBk.put hne (B2:=B2) (L2:=L2) hb hl)
       have HBKS:=Lib.hid (fun (he:pl j=[])=>hBk.skip he)
       clear hB2 hO hP2 ej hBk
       generalize (pl j).length=n at *
       by_cases hz:n=0
       ·subst hz
        go_wp2_with fail
        go_roundw
        case rel=>exact⟨j+1,by omega,by go_num,B',L',(HBKS.out (hnil.out.2 rfl)).1,by rw[(HBKS.out (hnil.out.2 rfl)).2];exact HB2.out⟩
        case measure=>simp[intOf];omega
       ·have d3:decide ((0:Int)<n)=true:=decide_eq_true (by omega)
        have d3':decide (0<n)=true:=decide_eq_true (by omega)
        have hne:Hid (pl j≠ []):=fun h=>hz (hnil.out.1 h)
        go_wp2_with fail
        have hbd:=HB2.out.still (Both.framed (OSt.framed _ _) (PSt.framed _ _ _ _)) ((Only.refl [] wr).drew)
        go_region_held3 (fun U=>U.cell? ⟨P.h,7,none⟩=some (.slice (some ⟨P.gA,0,none⟩) na P.cA)/\U.cell? ⟨P.gA,j,none⟩=some (.pointer (some ⟨P.ar j,0,none⟩))/\U.cell? ⟨W.heap.size,0,none⟩=some (.int .i64 k))
         (exact bkCells HNA.out hlt2 (by assumption))
         (first
          |(go_at_call 119;with_reducible refine Calls.mono (CP.out _ hbd) ?_;rintro _ wN ⟨xB,⟨⟨nn,rfl⟩,hb8,hl8⟩,hbN⟩;clear hbd;have hbd:=hbN;clear hbN))
        have HX8:=Lib.hid (And.intro hb8 (And.intro hl8 hbd))
        clear hb8 hl8 hbd CP
        go_wp2_with fail
        obtain⟨hb8,hl8,hbd⟩:=HX8.out
        obtain⟨u1,u2⟩:=HBKP.out hne.out xB.1 xB.2 hb8 hl8
        go_roundw
        case rel=>exact⟨j+1,by omega,by go_num,_,_,u1,by rw[<-u2];exact hbd⟩
        case measure=>simp[intOf];omega
      ·have e2:j=na:=by omega
       subst e2
       have d2:decide ((j:Int)<j)=false:=decide_eq_false (by omega)
       clear hB2 hBk
       go_wp2_with fail
       go_end0
       refine⟨rfl,_,.inr ⟨pl,B',L',fun x=>?_,by rw[HNA.out];exact HBK.out,by rw[HNA.out]⟩,HB2.out.drop.less (fun x hx=>mcm _ hx)⟩
       rw[HNA.out,HLP.out.cnt x,<-HOLE.out,List.take_length]
    ·have hnB:nB=0:=hxB rfl
     subst hnB
     clear hxB
     have HB:=Lib.hid (show Ctx P {S with X:=upd2 S.X own k (S.X own k++[(b',o)])} w FP (Both (OSt (.slice (some ⟨b0,off,none⟩) i cv) o) (PSt na (W.heap.size+1) pv pl)) ((W.heap.size,205,#[.int .i64 k,.slice (some ⟨b0,off,none⟩) i cv])::bx) wN from hbd)
     clear hbd CT
     go_wp2_with fail
     refine bodyPost_ret (results_none rfl _ _ _) rfl ?_
     exact⟨rfl,_,.inl ⟨b',rfl⟩,HB.out.drop.less (fun x hx=>mcm _ hx)⟩
   ·have hbq:((no:Int)==(i:Int))=false:=beq_eq_false_iff_ne.2 (by omega)
    have hbq':(no==i)=false:=beq_eq_false_iff_ne.2 hno
    go_wp2_with fail
    go_region
    go_wp2_with fail
    have HB:=Lib.hid (HB.out.still (Both.framed (OSt.framed _ _) (PSt.framed _ _ _ _)) ((Only.refl [] wr).drew))
    go_loopw[72] (fun t wr2=>∃j:Nat,j<=na/\t=.int .i64 j/\∃B' L',BkR S k pl j B' L'/\Ctx P (S.bks k pl j B' L') w FP (Both (OSt (.slice (some ⟨b0,off,none⟩) i cv) o) (PSt na (W.heap.size+1) pv pl)) ((W.heap.size,205,#[.int .i64 k,.slice (some ⟨b0,off,none⟩) i cv])::bx) wr2) (fun t _=>na-(intOf t).toNat)
    case atStart=>exact⟨0,Nat.zero_le _,rfl,S.B,S.L,BkR.zero S k pl,by rw[HS.bks_zero];exact HB.out⟩
    case round=>
     obtain⟨j,hj',rfl,B',L',hBk,hB2⟩:=hrel
     have HBK:=Lib.hid hBk
     have HB2:=Lib.hid hB2
     have HBX2:=Lib.hid (hB2.box (mcs ..))
     by_cases hlt2:j<na
     ·have d2:decide ((j:Int)<na)=true:=decide_eq_true (by omega)
      have d2':decide (j<na)=true:=decide_eq_true hlt2
      obtain⟨fsj,f1,f2,hO,hP2,_⟩:=hB2.part
      have hcj:=hP2.1.1.cell hlt2
      obtain⟨Aj,cj,ej,hcj2,_⟩:=(hP2.1.2.2 j hlt2).form
      rw[ej] at hcj
      have HEJ:=Lib.hid ej
      have hnil:Hid (pl j=[]↔(pl j).length=0):=List.length_eq_zero_iff.symm
      have hlnj:=HLP.out.ln j hlt2
      have CP:=Lib.hid (fun (W2:World) (hcc:Ctx P (S.bks k pl j B' L') w FP (Both (OSt (.slice (some ⟨b0,off,none⟩) i cv) o) (PSt na (W.heap.size+1) pv pl)) ((W.heap.size,205,#[.int .i64 k,.slice (some ⟨b0,off,none⟩) i cv])::bx) W2)=>hcc.callB (f:=119) (args:=#[.pointer (some ⟨P.ar j,0,none⟩),.int .i64 k,.slice Aj (pl j).length cj]) (α:=(Nat->Int->Bool)×(Nat->Int)) (R:=fun x e=>(∃n,e=.returned (.int .i64 n))/\(∀y,bF x.1 y↔bF (S.B j) y\/∃q,q<(putR (S.M j k) (pl j)).length/\(rAt (putR (S.M j k) (pl j)) q).1<=y/\y<(rAt (putR (S.M j k) (pl j)) q).1+(rAt (putR (S.M j k) (pl j)) q).2)/\SameL (S.L j) x.2) (S':=fun x=>({S.bks k pl j B' L' with M:=upd2 (S.bks k pl j B' L').M j k (putM (S.M j k) (pl j))}:HS).bk j x.1 x.2) (Both.framed (OSt.framed _ _) (PSt.framed _ _ _ _)) (fun FPc fs hs hL hd hbx=>by
       obtain⟨g1,g2,q1,q2,rfl⟩:=hL
       obtain⟨t1,t2,t3⟩:=bks_at hBk
       have tk:=HTO.out j (by first|exact hlt2|(rw[HNA.out];exact hlt2)) (pl j) (fun x=>by have:=sumC_le pl hlt2 x;rw[HLP.out.cnt x,<-HOLE.out,List.take_length] at this;exact this)
       have hv:=q2.1.2.2 j hlt2
       rw[ej] at hv
       refine(atoC_at hs (by rw[HNA.out];exact hlt2) HK.out hv (fun b hb=>hd b (List.mem_append_right _ hb)) (fun x hx=>?_) (by omega) (by rw[t1];exact tk.len) (by rw[t1];exact tk.ok) (by rw[t1];exact tk.ap) (by rw[t1,t2];exact tk.fr)).mono ?_
       ·have h8:0<(pl j).count x:=List.count_pos_iff.2 hx
        have h9:=sumC_le pl hlt2 x
        rw[HLP.out.cnt x,<-HOLE.out,List.take_length] at h9
        have:=(HEX.out x (List.count_pos_iff.1 (by omega))).1
        unfold I64;omega
       ·rintro e w' ⟨hn,B2,L2,h2,h3,h4⟩
        rw[t1] at h2 h3
        rw[t2] at h3
        rw[t3] at h4
        exact⟨(B2,L2),⟨hn,h3,h4⟩,h2⟩))
      have HBKP:=Lib.hid (fun (hne:pl j≠ []) (B2:Nat->Int->Bool) (L2:Nat->Int) hb hl=>hBk.put hne (B2:=B2) (L2:=L2) hb hl)
      have HBKS:=Lib.hid (fun (he:pl j=[])=>hBk.skip he)
      clear hB2 hO hP2 ej hBk
      generalize (pl j).length=n at *
      by_cases hz:n=0
      ·subst hz
       go_wp2_with fail
       go_roundw
       case rel=>exact⟨j+1,by omega,by go_num,B',L',(HBKS.out (hnil.out.2 rfl)).1,by rw[(HBKS.out (hnil.out.2 rfl)).2];exact HB2.out⟩
       case measure=>simp[intOf];omega
      ·have d3:decide ((0:Int)<n)=true:=decide_eq_true (by omega)
       have d3':decide (0<n)=true:=decide_eq_true (by omega)
       have hne:Hid (pl j≠ []):=fun h=>hz (hnil.out.1 h)
       go_wp2_with fail
       have hbd:=HB2.out.still (Both.framed (OSt.framed _ _) (PSt.framed _ _ _ _)) ((Only.refl [] wr).drew)
       go_region_held3 (fun U=>U.cell? ⟨P.h,7,none⟩=some (.slice (some ⟨P.gA,0,none⟩) na P.cA)/\U.cell? ⟨P.gA,j,none⟩=some (.pointer (some ⟨P.ar j,0,none⟩))/\U.cell? ⟨W.heap.size,0,none⟩=some (.int .i64 k))
        (exact bkCells HNA.out hlt2 (by assumption))
        (first
         |(go_at_call 119;with_reducible refine Calls.mono (CP.out _ hbd) ?_;rintro _ wN ⟨xB,⟨⟨nn,rfl⟩,hb8,hl8⟩,hbN⟩;clear hbd;have hbd:=hbN;clear hbN))
       have HX8:=Lib.hid (And.intro hb8 (And.intro hl8 hbd))
       clear hb8 hl8 hbd CP
       go_wp2_with fail
       obtain⟨hb8,hl8,hbd⟩:=HX8.out
       obtain⟨u1,u2⟩:=HBKP.out hne.out xB.1 xB.2 hb8 hl8
       go_roundw
       case rel=>exact⟨j+1,by omega,by go_num,_,_,u1,by rw[<-u2];exact hbd⟩
       case measure=>simp[intOf];omega
     ·have e2:j=na:=by omega
      subst e2
      have d2:decide ((j:Int)<j)=false:=decide_eq_false (by omega)
      clear hB2 hBk
      go_wp2_with fail
      go_end0
      refine⟨rfl,_,.inr ⟨pl,B',L',fun x=>?_,by rw[HNA.out];exact HBK.out,by rw[HNA.out]⟩,HB2.out.drop.less (fun x hx=>mcm _ hx)⟩
      rw[HNA.out,HLP.out.cnt x,<-HOLE.out,List.take_length]
theorem ctok_of (C:Int->Option CE) (k:Int) (p:Nat) (j a:Int):ctok (cOf C k p) j a=ctok C j a:=by
 unfold cOf
 cases h:C k with
 |some x=>rfl
 |none=>
  dsimp only
  rw[ctok_set]
  by_cases e:j=k
  ·subst e
   rw[if_pos rfl]
   unfold ctok
   rw[h]
   rfl
  ·rw[if_neg e]
theorem ctok_put {C:Int->Option CE} {k:Int} {x:CE} (h:cOf C k x.p k=some x) (e':CLp) (j a:Int):ctok (cSet (cOf C k x.p) k ⟨x.p,e'⟩) j a+(if j=k then x.e.o.count a else 0)=ctok C j a+(if j=k then e'.o.count a else 0):=by
 rw[ctok_set,<-ctok_of C k x.p j a]
 by_cases e:j=k
 ·subst e
  rw[if_pos rfl,if_pos rfl,if_pos rfl,ctok_some h]
  exact Nat.add_comm _ _
 ·rw[if_neg e,if_neg e,if_neg e]
set_option maxHeartbeats 2000000 in
theorem cput2_at {q:Nat} {T:List Z.Cl} {bud:Int} {C:Int->Option CE} {w:World} {fp:List Nat} (h:CaSt q T bud C w fp) (k:Nat) (hk:k<T.length) (a:Int):
 Calls Tryz.prog 92 #[.pointer (some ⟨q,0,none⟩),.int .i64 k,.int .i64 a] w fun r w'=>∃(x:CE) (e':CLp) (v:Value) (l:List Int) (n:Int),r=.returned (.tuple #[v,.int .i64 n])/\CGave q T bud C k w fp x e' v l w'/\
  ((l++e'.o=x.e.o++[a]\/(l=[]/\e'.o=x.e.o))/\l.length<=256):=by
 have CF:=Lib.hid (cfind_at h k hk)
 have HK:=Lib.hid hk
 have hk40:k<40:=by have:=h.tab.2.1;omega
 clear h hk
 go_enter Tryz.func92,Tryz.ntmps92
 go_wp2_with fail
 refine CF.out.mono ?_
 rintro r w1 ⟨x,rfl,h1,h2⟩
 obtain⟨q1,fp1,hs,q2⟩:=h2
 obtain⟨p,e⟩:=x
 obtain⟨f,hl,hff,hlift⟩:=hs.lift h1
 have HD:=Lib.hid (fun (e':CLp) (w2:World) (v:Value) (l:List Int) (r:GivesN (LiSt p e') (OSt v l) w1 f w2)=>CGave.of h1 hff q1 q2 hs.lts hlift r)
 have HS:=Lib.hid hs
 have HL:=Lib.hid hl
 have HFF:=Lib.hid hff
 have HLIFT:=Lib.hid hlift
 have hoA:Only [] w1 (w1.alloc (.cells #[.int .i64 a] 3)):=(Only.refl [] w1).alloc _
 have hu:OSl (w1.alloc (.cells #[.int .i64 a] 3)) (.slice (some ⟨w1.heap.size,0,none⟩) 1 1) [w1.heap.size] [a]:=.inr ⟨by simp,w1.heap.size,by simp,⟨0,1,rfl,by simp,fun j hj=>by
  have:j=0:=by simpa using hj
  subst this
  exact cell_new1 w1 (.int .i64 a) 3 0 _ rfl⟩,by simp⟩
 have CA:=Lib.hid (oadd_at ((LiSt.framed _ _).still hl hoA) hu (by simp))
 have HOA:=Lib.hid hoA
 clear hs hl h1 CF hff q1 q2 hlift hoA hu
 go_wp2_with fail
 refine CA.out.mono ?_
 rintro r w3 (⟨_,rfl,rfl⟩|⟨_,rfl,h3⟩)
 ·go_wp2_with fail
  go_ret2
  exact⟨⟨p,e⟩,e,_,[],6,rfl,HD.out _ _ _ _ (Turns.givesN (Turns.in_ HOA.out.of_nil ((LiSt.framed _ _).still HL.out HOA.out))),.inr ⟨rfl,rfl⟩,by simp⟩
 ·have h13:=Turns.first HOA.out h3
  clear h3 CA
  obtain⟨o3,f3,l3,hf3⟩:=h13
  obtain⟨A,c,l0,l1,l2,hc,ho,hfz⟩:=l3.cells
  have hok:=l3.ok
  have hs3:=HLIFT.out _ _ _ o3 l3 hf3
  obtain⟨ta,tc,gm,t0,t1,t2,s0,s1,s2,sok⟩:=hs3.tabs HK.out
  have hkn:=HK.out
  obtain⟨y1,y2,y3,y4,y5,y6,y7,y8⟩:=sok
  have b1:=hok.l1
  have b2:=hok.l2
  have b3:=hok.ln
  have HL3:=Lib.hid l3
  have HS3:=Lib.hid hs3
  have HO3:=Lib.hid (And.intro o3 hf3)
  dsimp only at l0 l1 l2 hc b1 b2 b3
  generalize hb:(Z.cAt T k).b=b at *
  obtain⟨n,hn⟩:∃n,n=(e.o++[a]).length:=⟨_,rfl⟩
  have HN:=Lib.hid hn
  rw[<-hn] at l0 b3 hc
  clear l3 hs3 o3 hf3 hok hb hn ho hfz
  have HTN:=Lib.hid (rfl:T.length=T.length)
  generalize T.length=tn at *
  by_cases hle:(n:Int)<=e.lim
  ·have d1:decide ((n:Int)<=e.lim)=true:=decide_eq_true hle
   go_wp2_with fail
   go_region
   go_wp2_with fail
   go_ret2
   have oD:Only [] w3 w3.drew:=(Only.refl [] w3).drew
   exact⟨⟨p,e⟩,_,_,[],0,rfl,HD.out _ _ _ _ (Turns.givesN ⟨HO3.out.1.then_ oD (by simp),f3,(LiSt.framed _ _).still HL3.out oD,HO3.out.2⟩),.inl rfl,by simp⟩
  ·have d1:decide ((n:Int)<=e.lim)=false:=decide_eq_false hle
   go_wp2_with fail
   go_region
   have oD:Only [] w3 w3.drew:=(Only.refl [] w3).drew
   have hld:=(LiSt.framed _ _).still HL3.out oD
   have hcA:(w3.drew).cell? ⟨q,0,none⟩=some (.slice (some ta) tn tc):=t0
   have hcB:(w3.drew).cell? ⟨(ta.add (k*3)).block,(ta.add (k*3)).off+2,none⟩=some (.int .i64 b):=s2
   have hcC:(w3.drew).cell? ⟨p,0,none⟩=some (.slice A n c):=l0
   have hcD:(w3.drew).cell? ⟨p,1,none⟩=some (.int .i64 e.lim):=l1
   have hcE:(w3.drew).frozen? ⟨p,1,none⟩=false:=by
    obtain⟨_,_,_,_,_,_,_,hf⟩:=hld.cells
    exact hf 1
   have HOD:=Lib.hid (HO3.out.1.then_ oD (by simp))
   have HLD:=Lib.hid hld
   clear oD hld t0 t1 t2 s0 s1 s2 l0 l1 l2 HS3
   generalize w3.drew=wd at *
   obtain⟨j,hj⟩:∃j:Nat,(j:Int)=min b (n:Int):=⟨(min b (n:Int)).toNat,by omega⟩
   have HJ:=Lib.hid hj
   have hjn:j<=n:=by omega
   by_cases hlb:e.lim<b
   ·have d2:decide (e.lim<b)=true:=decide_eq_true hlb
    have w0:IntKind.i64.wrap (e.lim+1)=e.lim+1:=IntWalk.i64_in _ (by omega)
    obtain⟨z1,z2,z3⟩:=HLD.out.set1 (e.lim+1) (by show 1<=e.lim+1;omega) (by show e.lim+1<=128;omega)
    have COL:=Lib.hid (by have h:=oldest_at z1 j (by show j<=(e.o++[a]).length;rw[<-HN.out];exact hjn);rw[hj] at h;exact h)
    have HG:=Lib.hid (HOD.out.then_ z2 (fun b hb=>by simp at hb;subst hb;exact HO3.out.2 b z3))
    clear z1 z2 z3 hj
    go_wp2_with fail
    refine COL.out.mono ?_
    rintro r w5 ⟨v,rfl,h5⟩
    have H5:=Lib.hid h5
    clear h5 COL
    go_wp2_with fail
    go_ret2
    exact⟨⟨p,e⟩,_,v,_,0,rfl,HD.out _ _ _ _ (GivesN.step HG.out HO3.out.2 H5.out),.inl (List.take_append_drop j (e.o++[a])),by rw[List.length_take,<-HN.out];omega⟩
   ·have d2:decide (e.lim<b)=false:=decide_eq_false hlb
    have COL:=Lib.hid (by have h:=oldest_at HLD.out j (by show j<=(e.o++[a]).length;rw[<-HN.out];exact hjn);rw[hj] at h;exact h)
    clear hj
    go_wp2_with fail
    refine COL.out.mono ?_
    rintro r w5 ⟨v,rfl,h5⟩
    have H5:=Lib.hid h5
    clear h5 COL
    go_wp2_with fail
    go_ret2
    exact⟨⟨p,e⟩,_,v,_,0,rfl,HD.out _ _ _ _ (GivesN.step HOD.out HO3.out.2 H5.out),.inl (List.take_append_drop j (e.o++[a])),by rw[List.length_take,<-HN.out];omega⟩
def HS.cac (S:HS) (t:Nat) (C:Int->Option CE):HS:={S with C:=upd S.C t C}
theorem HSys.cache {P:Hp} {S:HS} {w:World} {FP:List Nat} (h:HSys P S w FP) {t:Nat} (ht:t<P.nt):∃f,CaSt (P.cq t) P.T P.bud (S.C t) w f/\(∀b∈f,b∈FP)/\(∀C' w',Turns (CaSt (P.cq t) P.T P.bud C') w f w'->Turns (HSys P (S.cac t C')) w FP w')/\∀C' Sn w',Gives (CaSt (P.cq t) P.T P.bud C') Sn w f w'->Gives (HSys P (S.cac t C')) Sn w FP w':=by
 obtain⟨f,h1,h2,h3⟩:=h.turn (.cac t)
 have h8:=h.big
 have hS:∀C',∀j,j≠ .cac t->St P (S.cac t C') j=St P S j:=fun C'=>St_C P S t C'
 have key:∀C' w' f',Only f w w'->CaSt (P.cq t) P.T P.bud C' w' f'->(∀b∈f',b∈f\/w.heap.size<=b)->HSys P (S.cac t C') w' (FP.filter (fun b=>decide (b∉f))++f')/\∀b∈FP.filter (fun b=>decide (b∉f))++f',b∈FP\/w.heap.size<=b:=fun C' w' f' ho hf hn=>by
  refine⟨h3 _ w' f' (hS C') ho ⟨fun _=>?_,(CaSt.framed _ _ _ _).lt hf⟩ (fun b hb=>?_),fun b hb=>?_⟩
  ·show CaSt _ _ _ (upd S.C t C' t) _ _
   rw[upd_at];exact hf
  ·rcases hn b hb with h4|h4
   ·exact .inl h4
   ·exact .inr ⟨fun h5=>by have:=h.lt b h5;omega,by omega⟩
  ·rcases List.mem_append.1 hb with h4|h4
   ·exact .inl (List.mem_filter.1 h4).1
   ·exact(hn b h4).imp_left (h2 b)
 refine⟨f,h1.1 ht,h2,fun C' w' ⟨ho,f',hf,hn⟩=>⟨ho.mono h2,_,key C' w' f' ho hf hn⟩,fun C' Sn w' ⟨ho,f',fs,hf,hs,hn,hm⟩=>?_⟩
 obtain⟨k1,k2⟩:=key C' w' f' ho hf hn
 refine⟨ho.mono h2,_,fs,k1,hs,k2,fun b hb=>⟨(hm b hb).1.imp_left (h2 b),fun h4=>?_⟩⟩
 rcases List.mem_append.1 h4 with h5|h5
 ·obtain⟨h6,h7⟩:=List.mem_filter.1 h5
  rcases (hm b hb).1 with h9|h9
  ·exact of_decide_eq_true h7 h9
  ·have:=h.lt b h6;omega
 ·exact(hm b hb).2 h5
def one1 (k a:Int) (j y:Int):Nat:=if j=k/\y=a then 1 else 0
theorem one1_count (k a j y:Int):(if j=k then [a].count y else 0)=one1 k a j y:=by
 unfold one1
 by_cases e:j=k
 ·rw[if_pos e]
  by_cases e2:y=a
  ·subst e2;rw[if_pos ⟨e,rfl⟩,List.count_singleton_self]
  ·rw[if_neg (fun h=>e2 h.2)];simp[List.count_cons,Ne.symm e2]
 ·rw[if_neg e,if_neg (fun h=>e h.1)]
theorem hcTake_at {P:Hp} {S:HS} {w:World} {FP:List Nat} (h:HSys P S w FP) {t k:Nat} (ht:t<P.nt) (hk:k<P.T.length):Calls Tryz.prog 82 #[.pointer (some ⟨P.cq t,0,none⟩),.int .i64 k] w fun e w'=>∃x:(Int->Option CE)×Int×Int,
 ((e=.returned (.tuple #[.int .i64 x.2.1,.int .i64 x.2.2])/\((x.2.2=0/\∀j y,ctok x.1 j y+one1 k x.2.1 j y=ctok (S.C t) j y)\/(x.2.2=4/\∀j y,ctok x.1 j y=ctok (S.C t) j y)))/\Turns (HSys P (S.cac t x.1)) w FP w'):=by
 obtain⟨f,hf,_,hg,_⟩:=h.cache ht
 refine(ctake_at hf k hk).mono ?_
 rintro e w' ⟨x,e',⟨h1,h2⟩,⟨a,rfl,h3⟩|⟨rfl,h3⟩⟩
 ·refine⟨(cSet (cOf (S.C t) k x.p) k ⟨x.p,e'⟩,a,0),⟨rfl,.inl ⟨rfl,fun j y=>?_⟩⟩,hg _ _ h2⟩
  have:=ctok_put h1 e' j y
  rw[h3,List.count_append] at this
  rw[<-one1_count]
  by_cases ej:j=k
  ·simp only[if_pos ej] at this ⊢;omega
  ·simp only[if_neg ej] at this ⊢;omega
 ·refine⟨(cSet (cOf (S.C t) k x.p) k ⟨x.p,e'⟩,0,4),⟨rfl,.inr ⟨rfl,fun j y=>?_⟩⟩,hg _ _ h2⟩
  have:=ctok_put h1 e' j y
  rw[h3] at this
  dsimp only
  omega
theorem hcWant_at {P:Hp} {S:HS} {w:World} {FP:List Nat} (h:HSys P S w FP) {t k:Nat} (ht:t<P.nt) (hk:k<P.T.length):Calls Tryz.prog 84 #[.pointer (some ⟨P.cq t,0,none⟩),.int .i64 k] w fun e w'=>∃x:(Int->Option CE)×Nat,
 ((e=.returned (.tuple #[.int .i64 x.2,.int .i64 0])/\1<=x.2/\x.2<=32/\∀j y,ctok x.1 j y=ctok (S.C t) j y)/\Turns (HSys P (S.cac t x.1)) w FP w'):=by
 obtain⟨f,hf,_,hg,_⟩:=h.cache ht
 refine(cwant_at hf k hk).mono ?_
 rintro e w' ⟨n,p,rfl,h1,h2,_,h3⟩
 exact⟨(cOf (S.C t) k p,n),⟨rfl,h1,h2,fun j y=>ctok_of _ _ _ _ _⟩,hg _ _ h3⟩
theorem hcFill_at {P:Hp} {S:HS} {w:World} {FP:List Nat} (h:HSys P S w FP) {t k:Nat} (ht:t<P.nt) (hk:k<P.T.length) {u:Value} {us:List Nat} {xs:List Int} (hu:OSl w u us xs) (hus:∀b∈us,b∉FP/\b<w.heap.size) (hx:xs.length<=1000):Calls Tryz.prog 89 #[.pointer (some ⟨P.cq t,0,none⟩),.int .i64 k,u] w fun e w'=>∃x:(Int->Option CE)×Int,
 ((e=.returned (.int .i64 x.2)/\∀j y,ctok x.1 j y<=ctok (S.C t) j y+(if j=k then xs.count y else 0))/\Turns (HSys P (S.cac t x.1)) w FP w'):=by
 obtain⟨f,hf,hff,hg,_⟩:=h.cache ht
 refine(cfill_at hf k hk hu (fun b hb=>⟨fun hb2=>(hus b hb).1 (hff b hb2),(hus b hb).2⟩) hx).mono ?_
 rintro e w' ⟨n,x,o,rfl,h1,h2,h3⟩
 refine⟨(cSet (cOf (S.C t) k x.p) k ⟨x.p,{x.e with o:=o}⟩,n),⟨rfl,fun j y=>?_⟩,hg _ _ h3⟩
 have:=ctok_put h1 {x.e with o:=o} j y
 dsimp only at this ⊢
 rcases h2 with rfl|rfl
 ·omega
 ·rw[List.count_append,List.count_reverse] at this
  by_cases ej:j=k
  ·simp only[if_pos ej] at this ⊢;omega
  ·simp only[if_neg ej] at this ⊢;omega
theorem hcPut_at {P:Hp} {S:HS} {w:World} {FP:List Nat} (h:HSys P S w FP) {t k:Nat} (ht:t<P.nt) (hk:k<P.T.length) (a:Int):Calls Tryz.prog 92 #[.pointer (some ⟨P.cq t,0,none⟩),.int .i64 k,.int .i64 a] w fun e w'=>∃x:(Int->Option CE)×Value×List Int×Int,
 ((e=.returned (.tuple #[x.2.1,.int .i64 x.2.2.2])/\x.2.2.1.length<=256/\∀j y,ctok x.1 j y+(if j=k then x.2.2.1.count y else 0)<=ctok (S.C t) j y+one1 k a j y)/\Gives (HSys P (S.cac t x.1)) (OSt x.2.1 x.2.2.1) w FP w'):=by
 obtain⟨f,hf,_,_,hg⟩:=h.cache ht
 refine(cput2_at hf k hk a).mono ?_
 rintro e w' ⟨x,e',v,l,n,rfl,⟨h1,h2⟩,h3,hle⟩
 refine⟨(cSet (cOf (S.C t) k x.p) k ⟨x.p,e'⟩,v,l,n),⟨rfl,hle,fun j y=>?_⟩,hg _ _ _ h2.gives⟩
 have:=ctok_put h1 e' j y
 dsimp only at this ⊢
 rw[<-one1_count]
 rcases h3 with h3|⟨rfl,h3⟩
 ·have h4:=congrArg (List.count y) h3
  rw[List.count_append,List.count_append] at h4
  by_cases ej:j=k
  ·simp only[if_pos ej] at this ⊢;omega
  ·simp only[if_neg ej] at this ⊢;omega
 ·rw[h3] at this
  by_cases ej:j=k
  ·simp only[if_pos ej] at this ⊢;simp;omega
  ·simp only[if_neg ej] at this ⊢;omega
theorem hcOver_at {P:Hp} {S:HS} {w:World} {FP:List Nat} (h:HSys P S w FP) {t:Nat} (ht:t<P.nt):Calls Tryz.prog 93 #[.pointer (some ⟨P.cq t,0,none⟩)] w fun r w'=>∃b,r=.returned (.bool b)/\Only [] w w':=by
 obtain⟨f,hf,_⟩:=h.cache ht
 exact cover_at hf
end Go.Proofs.YtcidjimefnhacaaGreatDoor
