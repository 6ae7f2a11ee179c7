/- TopSchedules, a part of the proof: Ue, Uh, Uj, Uk. -/
import Derived.Test.YtcidjimefnhacaaGreatDoorM45
import Derived.Deep.DeepCutAuto
set_option linter.unusedVariables false
set_option linter.unusedSimpArgs false
namespace Go.Proofs.YtcidjimefnhacaaGreatDoor
open Go.RowKit
theorem fld_cfg0 (a b c d e:Value) (W:World):Sem.run Tryz.prog (Instr.field 27 (.agg #[a,b,c,d,e]) 0) W=.ok a W:=by kernel_rfl
set_option maxRecDepth 100000 in
theorem real_at {P:Hp} {S:HS} {w:World} {FP:List Nat} (h:HSys P S w FP):Grew Tryz.prog 33 #[.pointer (some ⟨P.h,0,none⟩)] w (.bool true):=by
 have CC:=Lib.hid (hconfig_at h)
 clear h
 go_enter Tryz.func33,Tryz.ntmps33
 go_wp2_with fail
 refine Grew.use CC.out (fun W2 ho=>?_)
 go_wp2_with fail
 rw[fld_cfg0]
 go_wp2_with fail
 go_ret
 exact⟨rfl,ho⟩
structure PrRow (w:World) (v:Value) (nt:Nat) (pr:Nat->List Ac):Prop where
 ex:∃g c pv fs,v=.slice (some ⟨g,0,none⟩) nt c/\nt<=c/\V.Row w g nt pv/\(∀t,t<nt->ActsAt w (pv t) (pr t) fs)/\∀t,t<nt->(pr t).length=0->pv t=.slice none 0 0
theorem PrRow.still {w W:World} {v:Value} {nt:Nat} {pr:Nat->List Ac} (h:PrRow w v nt pr) (ho:Only [] w W):PrRow W v nt pr:=by
 obtain⟨g,c,pv,fs,h1,h2,h3,h4,h5⟩:=h
 exact⟨g,c,pv,fs,h1,h2,h3.only ho (by simp),fun t ht=>(h4 t ht).only ho (by simp),h5⟩
theorem info_asl:(Tryz.prog.info? 31).map (fun i=>(i.zero,i.size,i.bytes))=some (some (.slice none 0 0),1,24):=by kernel_rfl
def RZ (j:Nat):RS:=⟨fun s=>if j<=s/\s<16 then 0 else -1,fun _=>0,fun _=>0,fun _=>false,[]⟩
theorem made_nil (n:Nat):∀i,i<n->(madeCells #[Value.slice none 0 0] n)[i]? =some (.slice none 0 0):=by
 intro i hi
 simp[madeCells,hi,Nat.mod_one]
structure NwAt (P:Hp) (pr:Nat->List Ac) (W0:World) (gp p i j:Nat) (w:World):Prop where
 ex:∃pv fa,V.Row w p 31 (runF P ⟨p,gp,P.nt,pv⟩ (.slice none 0 0) (RZ j))/\V.Row w gp P.nt pv/\(∀t,t<i->ActsAt w (pv t) (pr t) fa)/\∀b∈fa,W0.heap.size<=b/\b≠p/\b≠gp/\b<w.heap.size
 o:Only [] W0 w
 g0:W0.heap.size<=gp
 p0:W0.heap.size<=p
 ne:p≠gp
theorem NwAt.start {P:Hp} {pr:Nat->List Ac} {W0 wr:World} (ho:Only [] W0 wr):NwAt P pr W0 wr.heap.size (wr.heap.size+1) 0 0 ((wr.alloc (.cells (madeCells #[.slice none 0 0] P.nt) 31)).alloc (.cells #[.pointer (some ⟨P.h,0,none⟩),.slice (some ⟨wr.heap.size,0,none⟩) P.nt P.nt,.int .i64 0,.int .i64 0,.int .i64 0,.int .i64 0,.int .i64 0,.int .i64 0,.int .i64 0,.int .i64 0,.int .i64 0,.int .i64 0,.int .i64 0,.int .i64 0,.int .i64 0,.int .i64 0,.int .i64 0,.int .i64 0,.int .i64 0,.int .i64 0,.int .i64 0,.int .i64 0,.int .i64 0,.int .i64 0,.int .i64 0,.int .i64 0,.bool false,.bool false,.bool false,.bool false,.slice none 0 0] 77)):=by
 have hb:=Blk.new wr 31 (madeCells #[.slice none 0 0] P.nt)
 have hr:=Blk.new (wr.alloc (.cells (madeCells #[.slice none 0 0] P.nt) 31)) 77 #[.pointer (some ⟨P.h,0,none⟩),.slice (some ⟨wr.heap.size,0,none⟩) P.nt P.nt,.int .i64 0,.int .i64 0,.int .i64 0,.int .i64 0,.int .i64 0,.int .i64 0,.int .i64 0,.int .i64 0,.int .i64 0,.int .i64 0,.int .i64 0,.int .i64 0,.int .i64 0,.int .i64 0,.int .i64 0,.int .i64 0,.int .i64 0,.int .i64 0,.int .i64 0,.int .i64 0,.int .i64 0,.int .i64 0,.int .i64 0,.int .i64 0,.bool false,.bool false,.bool false,.bool false,.slice none 0 0]
 rw[World.size_alloc] at hr
 refine⟨⟨fun _=>.slice none 0 0,[],⟨_,_,hr,Nat.le_of_eq rfl,fun k hk=>?_⟩,⟨_,_,hb.alloc _,by simp[size_madeCells],fun k hk=>made_nil _ k hk⟩,(fun t ht=>by omega),(fun b hb=>by cases hb)⟩,(ho.alloc _).alloc _,ho.size,Nat.le_succ_of_le ho.size,by omega⟩
 have hk':k=0\/k=1\/k=2\/k=3\/k=4\/k=5\/k=6\/k=7\/k=8\/k=9\/k=10\/k=11\/k=12\/k=13\/k=14\/k=15\/k=16\/k=17\/k=18\/k=19\/k=20\/k=21\/k=22\/k=23\/k=24\/k=25\/k=26\/k=27\/k=28\/k=29\/k=30:=by omega
 rcases hk' with rfl|rfl|rfl|rfl|rfl|rfl|rfl|rfl|rfl|rfl|rfl|rfl|rfl|rfl|rfl|rfl|rfl|rfl|rfl|rfl|rfl|rfl|rfl|rfl|rfl|rfl|rfl|rfl|rfl|rfl|rfl<;>rfl
theorem NwAt.put {P:Hp} {pr:Nat->List Ac} {W0 w w3:World} {gp p i:Nat} (h:NwAt P pr W0 gp p i 0 w) (ho:Only [] w w3) {v:Value} (hv:w3.ownsRow w.heap.size 50 6 v (pr i).length (acCells (pr i))):NwAt P pr W0 gp p (i+1) 0 (w3.setCell ⟨gp,i,none⟩ v):=by
 obtain⟨⟨pv,fa,h1,h2,h3,h4⟩,h5,h6,h7,h8⟩:=h
 have hlt:∀b,v.ownBlock=some b->w.heap.size<=b/\b<w3.heap.size:=fun b hb=>hv.lt b hb
 have hs:=ho.size
 have hset:Only [gp] w3 (w3.setCell ⟨gp,i,none⟩ v):=(Only.refl [gp] w3).setCell (p:=⟨gp,i,none⟩) (.inl (by simp)) _
 have hpl:=h1.lt
 have hgl:=h2.lt
 refine⟨⟨fun k=>if k=i then v else pv k,fa++v.ownBlock.toList,?_,?_,fun t ht=>?_,fun b hb=>?_⟩,(h5.trans ho).setCell (p:=⟨gp,i,none⟩) (.inr h6) _,h6,h7,h8⟩
 ·exact((h1.only ho (by simp)).only hset (by simpa using h8)).congr (fun k hk=>rfl)
 ·exact(h2.only ho (by simp)).set_ i v
 ·rcases Nat.lt_or_ge t i with c|c
  ·dsimp only
   rw[if_neg (by omega)]
   exact(((h3 t c).only ho (by simp)).only hset (fun b hb=>by simpa using (h4 b hb).2.2.1)).mono (fun b hb=>List.mem_append_left _ hb)
  ·obtain rfl:t=i:=by omega
   dsimp only
   rw[if_pos rfl]
   refine((ActsAt.of_own hv).only hset (fun b hb=>?_)).mono (fun b hb=>List.mem_append_right _ hb)
   have:=hlt b (Option.mem_toList.1 hb)
   simp
   omega
 ·have hz:(w3.setCell ⟨gp,i,none⟩ v).heap.size=w3.heap.size:=by simp[World.setCell]
  rw[hz]
  rcases List.mem_append.1 hb with hb|hb
  ·obtain⟨q1,q2,q3,q4⟩:=h4 b hb
   exact⟨q1,q2,q3,by omega⟩
  ·obtain⟨r1,r2⟩:=hlt b (Option.mem_toList.1 hb)
   have:=h5.size
   exact⟨by omega,by omega,by omega,r2⟩
theorem NwAt.still {P:Hp} {pr:Nat->List Ac} {W0 w w3:World} {gp p i j:Nat} (h:NwAt P pr W0 gp p i j w) (ho:Only [] w w3):NwAt P pr W0 gp p i j w3:=by
 obtain⟨⟨pv,fa,h1,h2,h3,h4⟩,h5,h6,h7,h8⟩:=h
 have hs:=ho.size
 exact⟨⟨pv,fa,h1.only ho (by simp),h2.only ho (by simp),fun t ht=>(h3 t ht).only ho (by simp),fun b hb=>by obtain⟨q1,q2,q3,q4⟩:=h4 b hb;exact⟨q1,q2,q3,by omega⟩⟩,h5.trans ho,h6,h7,h8⟩
theorem NwAt.slot {P:Hp} {pr:Nat->List Ac} {W0 w:World} {gp p i j:Nat} (h:NwAt P pr W0 gp p i j w) (hj:j<16):NwAt P pr W0 gp p i (j+1) (w.setCell ⟨p,2+j,none⟩ (.int .i64 (-1))):=by
 obtain⟨⟨pv,fa,h1,h2,h3,h4⟩,h5,h6,h7,h8⟩:=h
 have hset:Only [p] w (w.setCell ⟨p,2+j,none⟩ (.int .i64 (-1))):=(Only.refl [p] w).setCell (p:=⟨p,2+j,none⟩) (.inl (by simp)) _
 have hz:(w.setCell ⟨p,2+j,none⟩ (.int .i64 (-1))).heap.size=w.heap.size:=by simp[World.setCell]
 refine⟨⟨pv,fa,(h1.set_ (2+j) _).congr (fun k hk=>?_),h2.only hset (by simpa using fun e=>h8 e.symm),fun t ht=>(h3 t ht).only hset (fun b hb=>by simpa using (h4 b hb).2.1),fun b hb=>by rw[hz];exact h4 b hb⟩,h5.setCell (p:=⟨p,2+j,none⟩) (.inr h7) _,h6,h7,h8⟩
 refine(runF_sl j hj (-1) k).trans ?_
 have e:({RZ j with sl:=upd (RZ j).sl j (-1)}:RS)=RZ (j+1):=by
  unfold RZ upd
  dsimp only
  congr 1
  funext s
  by_cases e:s=j
  ·rw[if_pos e,if_neg (by omega)]
  ·rw[if_neg e]
   by_cases c:j<=s/\s<16
   ·rw[if_pos c,if_pos (by omega)]
   ·rw[if_neg c,if_neg (by omega)]
 rw[e]
theorem NwAt.cells {P:Hp} {pr:Nat->List Ac} {W0 w:World} {gp p i j:Nat} (h:NwAt P pr W0 gp p i j w):w.cell? ⟨p,1,none⟩=some (.slice (some ⟨gp,0,none⟩) P.nt P.nt)/\(∀k,w.frozen? ⟨p,k,none⟩=false)/\(∀k,w.frozen? ⟨gp,k,none⟩=false)/\(∀k,k<P.nt->∃u,w.cell? ⟨gp,k,none⟩=some u)/\∀k,k<16->∃u,w.cell? ⟨p,2+k,none⟩=some u:=by
 obtain⟨⟨pv,fa,h1,h2,h3,h4⟩,h5,h6,h7,h8⟩:=h
 exact⟨h1.cell (k:=1) (by decide),fun k=>h1.frozen k,fun k=>h2.frozen k,fun k hk=>⟨_,h2.cell hk⟩,fun k hk=>⟨_,h1.cell (k:=2+k) (by omega)⟩⟩
theorem NwAt.done {P:Hp} {pr:Nat->List Ac} {W0 w:World} {gp p:Nat} (h:NwAt P pr W0 gp p P.nt 16 w):∃Q fs,Q.p=p/\Only [] W0 w/\RunRec P Q pr (RZ 16) w fs/\∀b∈fs,W0.heap.size<=b:=by
 obtain⟨⟨pv,fa,h1,h2,h3,h4⟩,h5,h6,h7,h8⟩:=h
 refine⟨⟨p,gp,P.nt,pv⟩,p::gp::fa,rfl,h5,⟨⟨.slice none 0 0,fa,h1,World.ownsRow_nil _ _ _ _,h2,h3,by simp,by simp,(fun b hb=>by simp[hb]),(fun b hb=>by cases hb),h8,fun hp=>(h4 p hp).2.1 rfl⟩,Nat.le_refl _,fun b hb=>?_⟩,fun b hb=>?_⟩
 ·rcases List.mem_cons.1 hb with rfl|hb
  ·exact h1.lt
  ·rcases List.mem_cons.1 hb with rfl|hb
   ·exact h2.lt
   ·exact(h4 b hb).2.2.2
 ·rcases List.mem_cons.1 hb with rfl|hb
  ·exact h7
  ·rcases List.mem_cons.1 hb with rfl|hb
   ·exact h6
   ·exact(h4 b hb).1
set_option maxRecDepth 100000 in
set_option maxHeartbeats 16000000 in
theorem tnew_at {P:Hp} {pr:Nat->List Ac} (F:Fx P pr) {S:HS} {W:World} {FPc:List Nat} (h:HSys P S W FPc) (hph:∀t,t<P.nt->S.ph t=.none) {v:Value} (hv:PrRow W v P.nt pr):
 Calls Tryz.prog 19 #[.pointer (some ⟨P.h,0,none⟩),v] W fun e W'=>∃Q:RP,e=.returned (.tuple #[.pointer (some ⟨Q.p,0,none⟩),.int .i64 0])/\Only [] W W'/\∃fs,RunRec P Q pr (RZ 16) W' fs/\∀b∈fs,W.heap.size<=b:=by
 obtain⟨g,c,pv,fs,rfl,hc,hrow,hacts,hnil⟩:=hv
 have hnt:=F.nt
 have hlens:∀t,t<P.nt->∃A c,pv t=.slice A (pr t).length c:=fun t ht=>by obtain⟨A,c,e,_⟩:=(hacts t ht).at_;exact⟨A,c,e⟩
 have HLS:=Lib.hid hlens
 have HROW:=Lib.hid hrow
 have HAC:=Lib.hid hacts
 have HNI:=Lib.hid hnil
 have HH:=Lib.hid h
 have HPH:=Lib.hid hph
 have CR:=Lib.hid (real_at h)
 obtain⟨j0,hj,jz0,jz1,jz2⟩:=info_parts info_asl
 have hmk:=fun W=>run_make (P:=Tryz.prog) W 29 31 j0 (.slice none 0 0) Tryz.underlying29 hj jz0 .i64 .i64 P.nt P.nt (by omega) (by omega) (by rw[jz2];omega) (by omega)
 simp only[Int.toNat_natCast,jz1,Nat.mul_one] at hmk
 clear hlens hrow hacts hnil h hph
 go_enter Tryz.func19,Tryz.ntmps19
 go_wp2_with fail
 refine Grew.use CR.out (fun W1 ho1=>?_)
 have HO1:=Lib.hid ho1
 have CC:=Lib.hid (hconfig_at (HH.out.still ho1))
 clear CR ho1
 go_wp2_with fail
 refine Grew.use CC.out (fun W2 ho2=>?_)
 have HO2:=Lib.hid (HO1.out.trans ho2)
 clear CC ho2 HO1
 go_wp2_with fail
 rw[fld_cfg2]
 go_wp2_with fail
 go_loopw[28] (fun t wr=>∃i:Nat,i<=P.nt/\t=.int .i64 i/\Only [] W wr) (fun t _=>P.nt-(intOf t).toNat)
 case atStart=>exact⟨0,Nat.zero_le _,rfl,HO2.out⟩
 case round=>
  obtain⟨i,hi,rfl,ho⟩:=hrel
  have HO:=Lib.hid ho
  clear ho
  rcases Nat.lt_or_ge i P.nt with hlt|hge
  ·have hlt':(i:Int)<P.nt:=by omega
   have hcell:=(HROW.out.only HO.out (by simp)).cell hlt
   obtain⟨A1,c1,e1⟩:=HLS.out i hlt
   rw[e1] at hcell
   have hle:=(F.ok i hlt).1
   have dle:decide (((pr i).length:Int)>32)=false:=decide_eq_false (by omega)
   have dle2:decide (32<((pr i).length:Int))=false:=decide_eq_false (by omega)
   generalize (pr i).length=n at *
   go_wp2_with fail
   go_roundw
   case rel=>exact⟨i+1,by omega,by go_num,HO.out⟩
   case measure=>
    show P.nt-((i:Int)+1).toNat<P.nt-(i:Int).toNat
    omega
  ·have hlt':¬((i:Int)<P.nt):=by omega
   go_wp2_with fail
   go_loopw[38] (fun t wr=>∃i:Nat,i<=P.nt/\t=.int .i64 i/\Only [] W wr) (fun t _=>P.nt-(intOf t).toNat)
   case atStart=>exact⟨0,Nat.zero_le _,rfl,HO.out⟩
   case round=>
    obtain⟨i,hi,rfl,ho⟩:=hrel
    have HO:=Lib.hid ho
    clear ho
    rcases Nat.lt_or_ge i P.nt with hlt|hge
    ·have hlt':(i:Int)<P.nt:=by omega
     have hcell:=(HROW.out.only HO.out (by simp)).cell hlt
     have CF:=Lib.hid (containsF_at ((HAC.out i hlt).only HO.out (by simp)) (by omega:i<3) (F.ok i hlt).2 (F.ok i hlt).1)
     obtain⟨A1,c1,e1⟩:=HLS.out i hlt
     rw[e1] at hcell CF
     go_wp2_with fail
     refine Grew.use CF.out (fun W3 ho3=>?_)
     have HO3:=Lib.hid (HO.out.trans ho3)
     go_wp2_with fail
     go_roundw
     case rel=>exact⟨i+1,by omega,by go_num,HO3.out⟩
     case measure=>
      show P.nt-((i:Int)+1).toNat<P.nt-(i:Int).toNat
      omega
    ·have hlt':¬((i:Int)<P.nt):=by omega
     go_wp2_with fail
     go_loopw[47] (fun t wr=>∃i:Nat,i<=P.nt/\t=.int .i64 i/\Only [] W wr) (fun t _=>P.nt-(intOf t).toNat)
     case atStart=>exact⟨0,Nat.zero_le _,rfl,HO.out⟩
     case round=>
      obtain⟨i,hi,rfl,ho⟩:=hrel
      have HO:=Lib.hid ho
      clear ho
      rcases Nat.lt_or_ge i P.nt with hlt|hge
      ·have hlt':(i:Int)<P.nt:=by omega
       have CP:=hPhase_at (HH.out.still HO.out) hlt
       rw[HPH.out i hlt] at CP
       unfold Ph.nm at CP
       have HCP:=Lib.hid CP
       clear CP
       go_wp2_with fail
       refine Grew.use HCP.out (fun W3 ho3=>?_)
       have HO3:=Lib.hid (HO.out.trans ho3)
       go_wp2_with fail
       go_roundw
       case rel=>exact⟨i+1,by omega,by go_num,HO3.out⟩
       case measure=>
        show P.nt-((i:Int)+1).toNat<P.nt-(i:Int).toNat
        omega
      ·have hlt':¬((i:Int)<P.nt):=by omega
       clear HPH
       go_wp2_with fail
       have hnw:=NwAt.start (P:=P) (pr:=pr) HO.out
       generalize wr.heap.size+1=p at *
       generalize wr.heap.size=gp at *
       have HNW:=Lib.hid hnw
       clear hnw HO
       go_loopw[62] (fun t wr=>∃i:Nat,i<=P.nt/\t=.int .i64 i/\NwAt P pr W gp p i 0 wr) (fun t _=>P.nt-(intOf t).toNat)
       case atStart=>exact⟨0,Nat.zero_le _,rfl,HNW.out⟩
       case round=>
        obtain⟨i,hi,rfl,hn⟩:=hrel
        have HN:=Lib.hid hn
        clear hn
        rcases Nat.lt_or_ge i P.nt with hlt|hge
        ·have hlt':(i:Int)<P.nt:=by omega
         have hcell:=(HROW.out.only HN.out.o (by simp)).cell hlt
         have CF:=Lib.hid (aclone_at (((HAC.out i hlt).only HN.out.o (by simp)).only ((Only.refl [] wr).drew) (by simp)) (HNI.out i hlt) (F.ok i hlt).1)
         obtain⟨A1,c1,e1⟩:=HLS.out i hlt
         rw[e1] at hcell CF
         obtain⟨z1,_,_,_,_⟩:=HN.out.cells
         have HC3:Hid (∀w3 (v':Value),Only [] wr.drew w3->w3.ownsRow wr.drew.heap.size 50 6 v' (pr i).length (acCells (pr i))->(w3.cell? ⟨p,1,none⟩=some (.slice (some ⟨gp,0,none⟩) P.nt P.nt)/\w3.frozen? ⟨gp,i,none⟩=false/\∃u,w3.cell? ⟨gp,i,none⟩=some u)/\NwAt P pr W gp p (i+1) 0 (w3.setCell ⟨gp,i,none⟩ v')):=fun w3 v' ho3 hown3=>by
          obtain⟨q1,q2,q3,q4,_⟩:=(HN.out.still ((Only.refl [] wr).drew.trans ho3)).cells
          exact⟨⟨q1,q3 i,q4 i hlt⟩,HN.out.put ((Only.refl [] wr).drew.trans ho3) hown3⟩
         have HLT:=Lib.hid hlt
         go_upto_region 28 with fail
         go_region_law (first
          |(go_simp;go_at_call 38;refine CF.out.mono ?_;rintro _ w3 ⟨v',rfl,hown3,ho3⟩;obtain⟨A',c',rfl,_⟩:=own_slice hown3;obtain⟨⟨q1,q2,_,q3⟩,hnx⟩:=HC3.out w3 _ ho3 hown3;have HNX:=Lib.hid hnx;clear hnx hown3))
         all_goals
          go_wp2_with fail
          go_roundw
          case rel=>exact⟨i+1,HLT.out,by go_num,HNX.out⟩
          case measure=>
           have:=HLT.out
           show P.nt-((i:Int)+1).toNat<P.nt-(i:Int).toNat
           omega
        ·have hlt':¬((i:Int)<P.nt):=by omega
         have e:i=P.nt:=by omega
         have HN2:Hid (NwAt P pr W gp p P.nt 0 wr):=by
          show NwAt ..
          rw[<-e];exact HN.out
         clear e HN
         go_wp2_with fail
         go_loopw[76] (fun t wr=>∃j:Nat,j<=16/\t=.int .i64 j/\NwAt P pr W gp p P.nt j wr) (fun t _=>16-(intOf t).toNat)
         case atStart=>exact⟨0,Nat.zero_le _,rfl,HN2.out⟩
         case round=>
          obtain⟨j,hj,rfl,hn⟩:=hrel
          have HN:=Lib.hid hn
          clear hn
          rcases Nat.lt_or_ge j 16 with hlt|hge
          ·have hlt':(j:Int)<16:=by omega
           obtain⟨_,f1,_,_,f2⟩:=HN.out.cells
           obtain⟨u,x0⟩:=f2 j hlt
           have x1:=f1 (2+j)
           have HNS:=Lib.hid (HN.out.slot hlt)
           clear f1 f2
           go_wp2_with fail
           go_roundw
           case rel=>exact⟨j+1,by omega,by go_num,HNS.out⟩
           case measure=>
            show 16-((j:Int)+1).toNat<16-(j:Int).toNat
            omega
          ·have hlt':¬((j:Int)<16):=by omega
           have e:j=16:=by omega
           subst e
           go_wp2_with fail
           go_ret2
           obtain⟨Q,fs',hp,ho,hr,hb⟩:=HN.out.done
           exact⟨Q,by rw[hp];rfl,ho,fs',hr,hb⟩
def wrA (a:Ac) (j:Nat):Ac:=⟨3,a.s,0,0,(j:Nat),(j:Nat)⟩
def clr1 (a:Ac):List Ac:=if a.k=0 then [a,wrA a 0,wrA a 1,wrA a 2] else [a]
def clrL (l:List Ac):Nat->List Ac
 |0=>[]
 |k+1=>if(clrL l k).length+4>32 then clrL l k else match l[k]? with
  |some a=>clrL l k++clr1 a
  |none=>clrL l k
theorem clrL_len (l:List Ac) (k:Nat):(clrL l k).length<=32:=by
 induction k with
 |zero=>exact Nat.zero_le _
 |succ k ih=>
  rw[clrL]
  split
  ·exact ih
  ·split
   ·rw[List.length_append]
    have:∀a,(clr1 a).length<=4:=fun a=>by unfold clr1;split<;>simp
    rename_i a _
    have:=this a
    omega
   ·exact ih
theorem clrL_stop {l:List Ac} {i:Nat} (h:(clrL l i).length+4>32):∀k,i<=k->clrL l k=clrL l i:=by
 intro k hk
 induction k with
 |zero=>rw[show i=0 by omega]
 |succ k ih=>
  rcases Nat.eq_or_lt_of_le hk with e|e
  ·rw[e]
  ·have:=ih (by omega)
   rw[clrL,this,if_pos h]
theorem clr1_ok {a:Ac} {t:Nat} (ha:a.Ok t):∀b∈clr1 a,b.Ok t:=by
 intro b hb
 unfold clr1 at hb
 have hw:∀j:Nat,j<=2->(wrA a j).Ok t:=fun j hj=>⟨by unfold wrA;dsimp only;omega,ha.s,fun h=>by unfold wrA at h;dsimp only at h;omega,by unfold wrA;dsimp only;omega,by unfold wrA;dsimp only;omega,by unfold wrA;dsimp only;omega⟩
 split at hb
 ·simp at hb
  rcases hb with rfl|rfl|rfl|rfl
  ·exact ha
  ·exact hw 0 (by decide)
  ·exact hw 1 (by decide)
  ·exact hw 2 (by decide)
 ·simp at hb
  subst hb
  exact ha
theorem clrL_ok {l:List Ac} {t:Nat} (h:∀a∈l,a.Ok t) (k:Nat):∀b∈clrL l k,b.Ok t:=by
 induction k with
 |zero=>intro b hb;cases hb
 |succ k ih=>
  rw[clrL]
  split
  ·exact ih
  ·split
   ·rename_i a ha
    intro b hb
    rcases List.mem_append.1 hb with hb|hb
    ·exact ih b hb
    ·exact clr1_ok (h a (List.mem_of_getElem? ha)) b hb
   ·exact ih
theorem costs_app (l m:List Ac):costs (l++m)=costs l+costs m:=by unfold costs;rw[List.map_append,List.sum_append]
set_option maxRecDepth 10000 in
theorem clr1_cost (a:Ac):costs (clr1 a)<=290:=by
 unfold clr1 costs
 split
 ·rename_i h
  simp[cost,wrA,h]
 ·simp only[List.map_cons,List.map_nil,List.sum_cons,List.sum_nil]
  unfold cost
  repeat (first|omega|split)
set_option maxRecDepth 10000 in
theorem clrL_cost (l:List Ac) (k:Nat) (hk:k<=l.length):costs (clrL l k)<=k*290:=by
 induction k with
 |zero=>exact Nat.le_refl _
 |succ k ih=>
  have:=ih (by omega)
  rw[clrL]
  split
  ·omega
  ·split
   ·rename_i a _
    rw[costs_app]
    have:=clr1_cost a
    omega
   ·omega
theorem Clr.app {l:List Ac} (h:Clr l) (a:Ac):Clr (l++clr1 a):=by
 intro k b hb hk j hj
 rcases Nat.lt_or_ge k l.length with c|c
 ·rw[List.getElem?_append_left c] at hb
  obtain⟨d,d1,d2⟩:=h k b hb hk j hj
  exact⟨d,(List.getElem?_append_left (List.getElem?_eq_some_iff.1 d1).1).trans d1,d2⟩
 ·rw[List.getElem?_append_right c] at hb
  unfold clr1 at hb
  split at hb
  ·rename_i ha
   have hk0:k-l.length=0:=by
    rcases (show k-l.length=0\/k-l.length=1\/k-l.length=2\/k-l.length=3\/4<=k-l.length by omega) with e|e|e|e|e
    ·exact e
    ·rw[e] at hb;cases hb;cases hk
    ·rw[e] at hb;cases hb;cases hk
    ·rw[e] at hb;cases hb;cases hk
    ·rw[List.getElem?_eq_none (show [_,_,_,_].length<=_ from e)] at hb;cases hb
   rw[hk0] at hb
   cases hb
   rw[List.getElem?_append_right (by omega),show k+1+j-l.length=1+j by omega]
   unfold clr1
   rw[if_pos ha]
   rcases (show j=0\/j=1\/j=2 by omega) with rfl|rfl|rfl<;>exact⟨_,rfl,rfl,rfl,rfl,rfl⟩
  ·rename_i ha
   rcases Nat.eq_zero_or_pos (k-l.length) with e|e
   ·rw[e] at hb;cases hb;exact absurd hk ha
   ·rw[List.getElem?_eq_none (show [_].length<=_ from e)] at hb;cases hb
theorem clrL_clr (l:List Ac) (k:Nat):Clr (clrL l k):=by
 induction k with
 |zero=>intro k a h;cases h
 |succ k ih=>
  rw[clrL]
  split
  ·exact ih
  ·split
   ·exact ih.app _
   ·exact ih
theorem cells_new6 (w:World) (t:TypeId) (x0 x1 x2 x3 x4 x5:Value):∀j u,[x0,x1,x2,x3,x4,x5][j]? =some u->(w.alloc (.cells #[x0,x1,x2,x3,x4,x5] t)).cell? ((⟨w.heap.size,0,none⟩:Addr).add j)=some u:=by
 intro j u hj
 rw[Addr.add_lit,Nat.zero_add]
 exact(Blk.new w t _).cell_ j (by simpa using hj)
set_option maxRecDepth 100000 in
set_option maxHeartbeats 16000000 in
theorem cleared_at {W:World} {v:Value} {l:List Ac} {fs:List Nat} (h:ActsAt W v l fs) (hl:l.length<=32):Calls Tryz.prog 6 #[v] W fun e W'=>∃v',e=.returned v'/\W'.ownsRow W.heap.size 50 6 v' (clrL l l.length).length (acCells (clrL l l.length))/\Only [] W W':=by
 obtain⟨A,c,rfl,hc,hcl⟩:=h.at_
 obtain⟨i0,hi,hz0,hz1,hz2⟩:=info_parts info_act
 have HCL:=Lib.hid hcl
 clear h hcl
 generalize hn:l.length=n at *
 have HN:=Lib.hid hn
 clear hn
 go_enter Tryz.func6,Tryz.ntmps6
 go_wp2_with fail
 go_loopw[3,4] (fun t3 t4 wr=>∃i:Nat,i<=n/\t4=.int .i64 i/\wr.ownsRow W.heap.size 50 6 t3 (clrL l i).length (acCells (clrL l i))/\Only [] W wr) (fun _ t _=>n-(intOf t).toNat)
 case atStart=>exact⟨0,Nat.zero_le _,rfl,World.ownsRow_nil _ _ _ _,Only.refl _ _⟩
 case round=>
  obtain⟨i,hi',rfl,hrow,ho⟩:=hrel
  have HROW:=Lib.hid hrow
  have HO:=Lib.hid ho
  have hos:=ho.size
  obtain⟨A0,c0,e0,_⟩:=own_slice hrow
  subst e0
  clear hrow ho
  rcases Nat.lt_or_ge i n with hlt|hge
  ·have hlt':(i:Int)<n:=by omega
   rcases Nat.lt_or_ge 32 ((clrL l i).length+4) with h32|h32
   ·have hst:Hid (clrL l n=clrL l i):=clrL_stop h32 n hi'
    have hm32:=clrL_len l i
    have hd:decide (((clrL l i).length:Int)+4>32)=true:=decide_eq_true (by omega)
    have hd2:decide (32<((clrL l i).length:Int)+4)=true:=decide_eq_true (by omega)
    have hd3:decide (32<(clrL l i).length+4)=true:=decide_eq_true (by omega)
    generalize hcm:(clrL l i).length=m at *
    have HCM:=Lib.hid hcm
    clear hcm
    go_wp2_with fail
    go_ret
    refine⟨_,rfl,?_,HO.out⟩
    rw[hst.out,HCM.out]
    exact HROW.out
   ·have hd:decide (((clrL l i).length:Int)+4>32)=false:=decide_eq_false (by omega)
    have hd2:decide (32<((clrL l i).length:Int)+4)=false:=decide_eq_false (by omega)
    have hd3:decide (32<(clrL l i).length+4)=false:=decide_eq_false (by omega)
    obtain⟨a,ha⟩:∃a,l[i]? =some a:=⟨_,List.getElem?_eq_getElem (by rw[HN.out];exact hlt)⟩
    obtain⟨g,off,rfl,hcs⟩:=HCL.out wr HO.out i a ha
    have hnx:Hid (clrL l (i+1)=clrL l i++clr1 a):=by
     show _=_
     rw[clrL,if_neg (by omega),ha]
    have HCS:=Lib.hid (fun W2 (ho2:Only [] W W2)=>by
     obtain⟨g',off',e',q⟩:=HCL.out W2 ho2 i a ha
     injection e' with e'
     injection e' with e1 e2 _
     subst e1 e2
     exact q:∀W2,Only [] W W2->∀j u,a.cells[j]? =some u->W2.cell? ⟨g,off+i*6+j,none⟩=some u)
    have y0:=hcs 0 _ rfl
    rw[Nat.add_zero] at y0
    have y1:=hcs 1 _ rfl
    have y2:=hcs 2 _ rfl
    have y3:=hcs 3 _ rfl
    have y4:=hcs 4 _ rfl
    have y5:=hcs 5 _ rfl
    clear hcs
    generalize hcm:(clrL l i).length=m at *
    have HCM:=Lib.hid hcm
    generalize hxs:acCells (clrL l i)=xs at *
    have HXS:=Lib.hid hxs
    clear hcm hxs
    by_cases hk:a.k=0
    ·have hkb:(a.k==0)=true:=beq_iff_eq.2 hk
     have hE3:Hid (clr1 a=[a]++(List.range 3).map (wrA a)):=by
      show _=_
      unfold clr1
      rw[if_pos hk];rfl
     clear hk
     go_wp2_with (at_builtin;refine wpList_append_own _ rfl _ _ 31 rfl W.heap.size 50 i0 (.agg #[.int .i64 0,.int .i64 0,.int .i64 0,.int .i64 0,.int .i64 0,.int .i64 0]) 6 48 Tryz.underlying31 hi hz0 hz1 hz2 rfl (by decide) _ _ _ rfl (own_only HROW.out ((Only.refl [] wr).alloc _) (by simp)) ⟨wr.heap.size,0,none⟩ 1 1 [.int .i64 a.k,.int .i64 a.s,.int .i64 a.z,.int .i64 a.al,.int .i64 a.w,.int .i64 a.v] rfl rfl (cells_new6 wr _ _ _ _ _ _ _) (by simp[Value.oneCell']) (by unfold maxLen;omega) (by omega) (by simp;omega) ?_;intro v1 w1 hown1 hg1 _;have HO1:=Lib.hid ((HO.out.alloc (.cells #[.int .i64 a.k,.int .i64 a.s,.int .i64 a.z,.int .i64 a.al,.int .i64 a.w,.int .i64 a.v] 50)).grown hg1 (fun k hk=>.inr (own_base HROW.out k hk)));have u0:=HCS.out w1 HO1.out 0 _ rfl;rw[Nat.add_zero] at u0;have u1:=HCS.out w1 HO1.out 1 _ rfl;have HW1:=Lib.hid hown1;obtain⟨A1,c1,e1,_⟩:=own_slice hown1;subst e1;clear hown1 hg1)
     go_loopw[3,5] (fun t3 t5 wr2=>∃j:Nat,j<=3/\t5=.int .i64 j/\wr2.ownsRow W.heap.size 50 6 t3 (m+1+j) (xs++a.cells++acCells ((List.range j).map (wrA a)))/\Only [] W wr2) (fun _ t _=>3-(intOf t).toNat)
     case atStart=>exact⟨0,Nat.zero_le _,rfl,by simpa[acCells,Ac.cells] using HW1.out,HO1.out⟩
     case round=>
      obtain⟨j,hj,rfl,hrow2,ho2⟩:=hrel
      have HR2:=Lib.hid hrow2
      have HO2:=Lib.hid ho2
      have hos2:=ho2.size
      obtain⟨A2,c2,e2,_⟩:=own_slice hrow2
      subst e2
      have z1:=HCS.out _ ho2 1 _ rfl
      clear hrow2 ho2
      rcases Nat.lt_or_ge j 3 with hj3|hj3
      ·have hj3':(j:Int)<3:=by omega
       go_wp2_with (at_builtin;refine wpList_append_own _ rfl _ _ 31 rfl W.heap.size 50 i0 (.agg #[.int .i64 0,.int .i64 0,.int .i64 0,.int .i64 0,.int .i64 0,.int .i64 0]) 6 48 Tryz.underlying31 hi hz0 hz1 hz2 rfl (by decide) _ _ _ rfl (own_only HR2.out ((Only.refl [] _).alloc _) (by simp)) ⟨_,0,none⟩ 1 1 [.int .i64 3,.int .i64 a.s,.int .i64 0,.int .i64 0,.int .i64 j,.int .i64 j] rfl rfl (cells_new6 _ _ _ _ _ _ _ _) (by simp[Value.oneCell']) (by unfold maxLen;omega) (by omega) (by simp;omega) ?_;intro v3 w3 hown3 hg3 _)
       refine⟨⟨j+1,by omega,by go_num,?_,(HO2.out.alloc _).grown hg3 (fun k hk=>.inr (own_base HR2.out k hk))⟩,by show 3-((j:Int)+1).toNat<3-(j:Int).toNat;omega⟩
       rw[List.range_succ,List.map_append,acCells_app,<-List.append_assoc,List.map_singleton,acCells_one]
       exact hown3
      ·have hj3':¬((j:Int)<3):=by omega
       have e:j=3:=by omega
       subst e
       have hrel2:Hid (World.ownsRow wr W.heap.size 50 6 (.slice A2 (m+1+3) c2) (clrL l (i+1)).length (acCells (clrL l (i+1)))):=by
        show World.ownsRow ..
        rw[hnx.out,hE3.out,List.length_append,acCells_app,HCM.out,HXS.out,acCells_app,acCells_one,<-List.append_assoc]
        exact HR2.out
       go_wp2_with fail
       go_roundw
       case rel=>exact⟨i+1,by omega,by go_num,hrel2.out,HO2.out⟩
       case measure=>
        show n-((i:Int)+1).toNat<n-(i:Int).toNat
        omega
    ·have hkb:(a.k==0)=false:=beq_eq_false_iff_ne.2 hk
     have hE1:Hid (clr1 a=[a]):=by
      show _=_
      unfold clr1
      rw[if_neg hk]
     clear hk
     go_wp2_with (at_builtin;refine wpList_append_own _ rfl _ _ 31 rfl W.heap.size 50 i0 (.agg #[.int .i64 0,.int .i64 0,.int .i64 0,.int .i64 0,.int .i64 0,.int .i64 0]) 6 48 Tryz.underlying31 hi hz0 hz1 hz2 rfl (by decide) _ _ _ rfl (own_only HROW.out ((Only.refl [] wr).alloc _) (by simp)) ⟨wr.heap.size,0,none⟩ 1 1 [.int .i64 a.k,.int .i64 a.s,.int .i64 a.z,.int .i64 a.al,.int .i64 a.w,.int .i64 a.v] rfl rfl (cells_new6 wr _ _ _ _ _ _ _) (by simp[Value.oneCell']) (by unfold maxLen;omega) (by omega) (by simp;omega) ?_;intro v1 w1 hown1 hg1 _;have HO1:=Lib.hid ((HO.out.alloc (.cells #[.int .i64 a.k,.int .i64 a.s,.int .i64 a.z,.int .i64 a.al,.int .i64 a.w,.int .i64 a.v] 50)).grown hg1 (fun k hk=>.inr (own_base HROW.out k hk)));have u0:=HCS.out w1 HO1.out 0 _ rfl;rw[Nat.add_zero] at u0;have u1:=HCS.out w1 HO1.out 1 _ rfl;have HW1:=Lib.hid hown1;obtain⟨A1,c1,e1,_⟩:=own_slice hown1;subst e1;clear hown1 hg1)
     refine⟨⟨i+1,by omega,by go_num,?_,HO1.out⟩,by show n-((i:Int)+1).toNat<n-(i:Int).toNat;omega⟩
     rw[hnx.out,hE1.out,List.length_append,acCells_app,HCM.out,HXS.out,acCells_one]
     exact HW1.out
  ·have hlt':¬((i:Int)<n):=by omega
   have e:i=n:=by omega
   have HE:Hid (clrL l n=clrL l i):=by
    show _=_
    rw[e]
   clear e
   generalize hcm:(clrL l i).length=m at *
   have HCM:=Lib.hid hcm
   clear hcm
   go_wp2_with fail
   go_ret
   refine⟨_,rfl,?_,HO.out⟩
   rw[HE.out,HCM.out]
   exact HROW.out
theorem RZ_sl (s:Nat):(RZ 16).sl s= -1:=by
 unfold RZ
 dsimp only
 rw[if_neg (by omega)]
theorem RI.fresh {P:Hp} {pr:Nat->List Ac} {S:HS} {who:Who} (hI:Inv P S who) (hA:Al P S) (hp:∀t,S.ph t=.none):RI P pr S (RZ 16) where
 inv:=⟨who,hI⟩
 al:=hA
 bg:=fun t _=>Nat.zero_le _
 slo:=fun s _=>RZ_sl s
 sok:=fun s=>.inl (RZ_sl s)
 dj:=fun s s' _ h=>by rw[RZ_sl] at h;omega
 fd:=fun t a s _ h=>by rw[hp t] at h;cases h
 md:=fun t _ h=>absurd (hp t) h
 evl:=Nat.zero_le _
theorem RA.fresh {P:Hp} {pr:Nat->List Ac} {S:HS}:RA P pr S (RZ 16) where
 rdy:=fun t _ i hi=>by cases hi
 rel:=fun t _ s _=>SlR.mk_none rfl (RZ_sl s)
 td:=fun t _=>rfl
theorem sumN_mul (f:Nat->Nat) (c n:Nat):sumN (fun t=>f t*c) n=sumN f n*c:=by
 induction n with
 |zero=>simp[sumN]
 |succ n ih=>rw[sumN,sumN,ih,Nat.add_mul]
theorem left_fresh {P:Hp} {L:Nat->List Ac} {S:HS} (hp:∀t,S.ph t=.none) (hH:∀t,phi P S t=0) (h30:sumN (fun t=>(L t).length) P.nt<=30):left P (fun t=>clrL (L t) (L t).length) S (RZ 16)<=8700:=by
 unfold left
 have h1:=sumN_le (f:=fun t=>phi P S t+costs ((clrL (L t) (L t).length).drop ((RZ 16).bg t))) (g:=fun t=>(L t).length *290) P.nt (fun i _=>by
  rw[hH i,Nat.zero_add]
  exact clrL_cost (L i) (L i).length (Nat.le_refl _))
 rw[sumN_mul (fun t=>(L t).length)] at h1
 have h2:=Nat.mul_le_mul_right 290 h30
 exact Nat.le_trans h1 h2
set_option maxRecDepth 100000 in
set_option maxHeartbeats 4000000 in
theorem hvalid_at (W:World) (na nt bud room:Int) (h1:1<=na/\na<=4) (h2:1<=nt/\nt<=4) (h3:0<=bud/\bud<=65536) (h4:0<=room/\room<=8):Grew Tryz.prog 46 #[.agg #[.int .i64 256,.int .i64 na,.int .i64 nt,.int .i64 bud,.int .i64 room]] W (.bool true):=by
 have hon:=Lib.hid ((Only.refl [] W).alloc (.cells #[.int .i64 256,.int .i64 na,.int .i64 nt,.int .i64 bud,.int .i64 room] 27))
 have a1:decide (na≥1)=true:=decide_eq_true h1.1
 have a2:decide (na<=4)=true:=decide_eq_true h1.2
 have a3:decide (nt≥1)=true:=decide_eq_true h2.1
 have a4:decide (nt<=4)=true:=decide_eq_true h2.2
 have a5:decide (bud≥0)=true:=decide_eq_true h3.1
 have a6:decide (bud<=65536)=true:=decide_eq_true h3.2
 have a7:decide (room≥0)=true:=decide_eq_true h4.1
 have a8:decide (room<=8)=true:=decide_eq_true h4.2
 obtain⟨h1a,h1b⟩:=h1
 obtain⟨h2a,h2b⟩:=h2
 obtain⟨h3a,h3b⟩:=h3
 obtain⟨h4a,h4b⟩:=h4
 go_enter Tryz.func46,Tryz.ntmps46
 go_wp2_with fail
 go_ret
 exact⟨rfl,hon.out⟩
def HS0 (hv:Nat->Value):HS:=⟨V.SpM.fresh 256,fun _ _ _=>false,fun _ _=>0,fun _ _=>none,fun _ _=>[],fun _ _=>[],fun _ _=>none,fun _=>[],hv,fun _=>.none,fun _=>none⟩
theorem tkH0 (P:Hp) (hv:Nat->Value) (h:Hd) (k a:Int):tkH P (HS0 hv) h k a=0:=by
 cases h with
 |liv=>rfl
 |cac t=>show(if t<P.nt then _ else 0)=0;split<;>rfl
 |han t=>show(if t<P.nt then _ else 0)=0;split<;>rfl
 |tra x=>show(if x<P.na/\0<=k/\k<P.T.length then _ else 0)=0;split<;>rfl
theorem Inv.fresh0 (P:Hp) (hv:Nat->Value):Inv P (HS0 hv) (fun _=>.spc) where
 c:={
  n:=rfl
  cen:=fun a k _ _ b h=>by obtain⟨s,h,_⟩:=h;cases h
  pgs:=fun a k _ _ b h=>by obtain⟨s,h,_⟩:=h;cases h
  bud:=fun a x _ h=>by
   unfold bF at h
   simp[HS0] at h
  spc:=fun b=>⟨fun _ h=>h.2.2 rfl,fun _=>rfl⟩
  lo:=fun x _=>rfl
  own:=fun b h=>absurd rfl h
  hugU:=fun a j _=>⟨fun _=>rfl,fun _=>rfl⟩
  run:=fun a s p _ h=>by cases h
  tin:=fun y h k x e=>by cases e
  dis:=fun a k a' k' y _ _ _ _ h=>by obtain⟨s,h,_⟩:=h;cases h}
 tk:=fun h k a h0=>by rw[tkH0] at h0;cases h0
 l:=⟨(fun a b h=>by cases h),(fun a b h=>by cases h)⟩
 trb:=fun a k _ _ b hb=>by cases hb
 hok:=fun t _ b hb=>by cases hb
 phs:=fun t _=>rfl
 fnd:=fun t u a _ _ h=>by cases h
theorem Al.fresh0 (P:Hp) (hv:Nat->Value):Al P (HS0 hv):=fun h k a h0=>by rw[tkH0] at h0;cases h0
theorem RK.fresh {P:Hp} {L:Nat->List Ac} (hv:Nat->Value) (h30:sumN (fun t=>(L t).length) P.nt<=30):RK P (fun t=>clrL (L t) (L t).length) 8700 (HS0 hv) (RZ 16) where
 ri:=RI.fresh (Inv.fresh0 P hv) (Al.fresh0 P hv) (fun _=>rfl)
 ra:=fun _=>RA.fresh
 lf:=left_fresh (fun _=>rfl) (fun _=>rfl) h30
end Go.Proofs.YtcidjimefnhacaaGreatDoor
