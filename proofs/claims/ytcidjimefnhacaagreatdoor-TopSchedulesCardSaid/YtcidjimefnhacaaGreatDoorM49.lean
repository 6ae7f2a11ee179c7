/- TopSchedules, a part of the proof: Ui, Ul, Um, Uv. -/
import Derived.Test.YtcidjimefnhacaaGreatDoorM46
import Derived.Deep.DeepCutAuto
import Derived.Test.YtcidjimefnhacaaGreatDoorM48
import Derived.Test.YtcidjimefnhacaaGreatDoorM45
set_option linter.unusedVariables false
set_option linter.unusedSimpArgs false
namespace Go.Proofs.YtcidjimefnhacaaGreatDoor
open Go.RowKit
set_option maxRecDepth 100000 in
set_option maxHeartbeats 4000000 in
theorem sized_at (W:World) (a b:Nat) (ha:a<256) (hb:b<256):Calls Tryz.prog 18 #[.int .u8 (a:Nat),.int .u8 (b:Nat)] W fun e W'=>∃z:Int,e=.returned (.int .i64 z)/\(1<=z/\z<=4000)/\W'=W:=by
 have m1:((a:Nat):Int).tmod 8=((a%8:Nat):Int):=by rw[Int.tmod_eq_emod_of_nonneg (by omega)];rfl
 have m2:((a:Int)*16+b).tmod 4000=(((a*16+b)%4000:Nat):Int):=by rw[Int.tmod_eq_emod_of_nonneg (by omega)];omega
 have m3:((a:Int)*3+b).tmod 600=(((a*3+b)%600:Nat):Int):=by rw[Int.tmod_eq_emod_of_nonneg (by omega)];omega
 have n1:a%8<8:=Nat.mod_lt _ (by decide)
 have n2:(a*16+b)%4000<4000:=Nat.mod_lt _ (by decide)
 have n3:(a*3+b)%600<600:=Nat.mod_lt _ (by decide)
 generalize (a*16+b)%4000=x2 at *
 generalize (a*3+b)%600=x3 at *
 generalize a%8=x1 at *
 by_cases h7:x1=7
 ·subst h7
  go_enter Tryz.func18,Tryz.ntmps18
  go_wp2_with fail
  go_ret
  exact⟨_,rfl,⟨by omega,by omega⟩,rfl⟩
 ·have hne:((x1:Int)==7)=false:=beq_eq_false_iff_ne.2 (by omega)
  go_enter Tryz.func18,Tryz.ntmps18
  go_wp2_with fail
  go_ret
  exact⟨_,rfl,⟨by omega,by omega⟩,rfl⟩
structure U84 (w:World) (A:Option Addr) (n:Nat) (f:Nat->Nat->Nat):Prop where
 at_:∀i,i<n->∃ad,A=some ad/\w.cell? (ad.add (i*4))=some (.int .u8 (f i 0:Nat))/\(∀j,0<j->j<4->w.cell? ⟨(ad.add (i*4)).block,(ad.add (i*4)).off+j,none⟩=some (.int .u8 (f i j:Nat)))/\∀j,f i j<256
theorem U84.still {w W:World} {A:Option Addr} {n:Nat} {f:Nat->Nat->Nat} (h:U84 w A n f) (ho:Only [] w W):U84 W A n f:=⟨fun i hi=>by
 obtain⟨ad,e,h1,h2,h3⟩:=h.at_ i hi
 exact⟨ad,e,(ho.cell (World.block_lt_of_cell? w _ h1) (by simp)).trans h1,fun j h0 hj=>(ho.cell (World.block_lt_of_cell? w _ (h2 j h0 hj)) (by simp)).trans (h2 j h0 hj),h3⟩⟩
structure PgAt (W0:World) (nt g i:Nat) (w:World):Prop where
 ex:∃(pv:Nat->Value) (L:Nat->List Ac),V.Row w g nt pv/\(∀t,t<nt->w.ownsRow W0.heap.size 50 6 (pv t) (L t).length (acCells (L t))/\(∀k,(pv t).ownBlock=some k->k≠g)/\(L t).length<=32/\(∀a∈L t,a.Ok t)/\((L t).length=0->pv t=.slice none 0 0))/\(∀t u,t<nt->u<nt->t≠u->∀k,(pv t).ownBlock=some k->(pv u).ownBlock≠some k)/\sumN (fun t=>(L t).length) nt<=i
 o:Only [] W0 w
 g0:W0.heap.size<=g
theorem PgAt.still {W0 w w':World} {nt g i:Nat} (h:PgAt W0 nt g i w) (ho:Only [] w w'):PgAt W0 nt g i w':=by
 obtain⟨⟨pv,L,h1,h2,h3,h4⟩,h5,h6⟩:=h
 exact⟨⟨pv,L,h1.only ho (by simp),fun t ht=>by obtain⟨q1,q2⟩:=h2 t ht;exact⟨own_only q1 ho (by simp),q2⟩,h3,h4⟩,h5.trans ho,h6⟩
theorem PgAt.up {W0 w:World} {nt g i:Nat} (h:PgAt W0 nt g i w):PgAt W0 nt g (i+1) w:=by
 obtain⟨⟨pv,L,h1,h2,h3,h4⟩,h5,h6⟩:=h
 exact⟨⟨pv,L,h1,h2,h3,by omega⟩,h5,h6⟩
theorem PgAt.to30 {W0 w:World} {nt g i j:Nat} (h:PgAt W0 nt g i w) (hj:i<=j):PgAt W0 nt g j w:=by
 obtain⟨⟨pv,L,h1,h2,h3,h4⟩,h5,h6⟩:=h
 exact⟨⟨pv,L,h1,h2,h3,by omega⟩,h5,h6⟩
theorem PgAt.app {W0 w:World} {nt g i u:Nat} (h:PgAt W0 nt g i w) (hu:u<nt):∃v A n1 c1 xs,v=.slice A n1 c1/\n1<=32/\∀w1,Only [] w w1->w1.ownsRow W0.heap.size 50 6 v n1 xs/\w1.cell? ⟨g,u,none⟩=some v/\w1.frozen? ⟨g,u,none⟩=false/\W0.heap.size<=w1.heap.size/\
 ∀(a:Ac),a.Ok u->n1<32->∀v' w',w'.ownsRow W0.heap.size 50 6 v' (n1+1) (xs++a.cells)->w1.grownBy w' v.ownBlock->(v'.ownBlock=v.ownBlock\/v'.ownBlock=some w1.heap.size)->w'.cell? ⟨g,u,none⟩=some v/\w'.frozen? ⟨g,u,none⟩=false/\PgAt W0 nt g (i+1) (w'.setCell ⟨g,u,none⟩ v'):=by
 obtain⟨⟨pv,L,h1,h2,h3,h4⟩,h5,h6⟩:=h
 obtain⟨q1,q2,q3,q4,q5⟩:=h2 u hu
 obtain⟨A,c,e,_⟩:=own_slice q1
 refine⟨pv u,A,(L u).length,c,acCells (L u),e,q3,fun w1 ho=>⟨own_only q1 ho (by simp),(h1.only ho (by simp)).cell hu,(h1.only ho (by simp)).frozen u,(h5.trans ho).size,fun a ha hl v' w' hown hg hb=>?_⟩⟩
 have hgl:=h1.lt
 have hs:=ho.size
 have hg1:g∉(pv u).ownBlock.toList:=fun hx=>q2 g (Option.mem_toList.1 hx) rfl
 have ho1:Only (pv u).ownBlock.toList w1 w':=(Only.refl _ w1).grown hg (fun k hk=>.inl (Option.mem_toList.2 hk))
 have hset:Only [g] w' (w'.setCell ⟨g,u,none⟩ v'):=(Only.refl [g] w').setCell (p:=⟨g,u,none⟩) (.inl (by simp)) _
 have hr1:=(h1.only ho (by simp)).only ho1 hg1
 have hnew:∀k,v'.ownBlock=some k->(pv u).ownBlock=some k\/k=w1.heap.size:=fun k hk=>by
  rcases hb with hb|hb
  ·exact .inl (hb.symm.trans hk)
  ·exact .inr (Option.some.inj (hb.symm.trans hk)).symm
 have hlt:∀t k,t<nt->(pv t).ownBlock=some k->k<w.heap.size:=fun t k ht hk=>((h2 t ht).1.lt k hk).2
 refine⟨hr1.cell hu,hr1.frozen u,⟨⟨fun k=>if k=u then v' else pv k,fun k=>if k=u then L u++[a] else L k,hr1.set_ u v',fun t ht=>?_,fun t t' ht ht' hne k hk=>?_,?_⟩,?_,h6⟩⟩
 ·dsimp only
  by_cases c:t=u
  ·subst c
   rw[if_pos rfl,if_pos rfl]
   refine⟨?_,fun k hk=>?_,by rw[List.length_append];simp;omega,fun b hb=>?_,fun h0=>by rw[List.length_append] at h0;simp at h0⟩
   ·rw[List.length_append,acCells_app,acCells_one]
    refine own_only hown hset (fun k hk=>?_)
    rcases hnew k hk with c|c
    ·simpa using q2 k c
    ·simp;omega
   ·rcases hnew k hk with c|c
    ·exact q2 k c
    ·omega
   ·rcases List.mem_append.1 hb with hb|hb
    ·exact q4 b hb
    ·simp at hb;subst hb;exact ha
  ·rw[if_neg c,if_neg c]
   obtain⟨r1,r2,r3⟩:=h2 t ht
   refine⟨own_only (own_only (own_only r1 ho (by simp)) ho1 (fun k hk hx=>h3 t u ht hu c k hk (Option.mem_toList.1 hx))) hset (fun k hk=>by simpa using r2 k hk),r2,r3⟩
 ·dsimp only at hk ⊢
  by_cases c:t=u
  ·rw[if_pos c] at hk
   rw[if_neg (by omega)]
   rcases hnew k hk with e|e
   ·exact h3 u t' hu ht' (by omega) k e
   ·intro hx
    have:=hlt t' k ht' hx
    omega
  ·rw[if_neg c] at hk
   by_cases c':t'=u
   ·rw[if_pos c']
    intro hx
    rcases hnew k hx with e|e
    ·exact h3 t u ht hu c k hk e
    ·have:=hlt t k ht hk
     omega
   ·rw[if_neg c']
    exact h3 t t' ht ht' hne k hk
 ·have hsum:=sumN_at (f:=fun t=>(L t).length) (g:=fun t=>(if t=u then L u++[a] else L t).length) nt hu (fun i _ hi=>by rw[if_neg hi])
  rw[if_pos rfl,List.length_append] at hsum
  simp only[List.length_cons,List.length_nil] at hsum
  show sumN (fun t=>(if t=u then L u++[a] else L t).length) nt<=i+1
  omega
 ·refine((h5.trans ho).grown hg (fun k hk=>.inr (own_base q1 k hk))).setCell (p:=⟨g,u,none⟩) (.inr h6) _
set_option maxRecDepth 100000 in
set_option maxHeartbeats 16000000 in
theorem programs_at {W:World} {A:Option Addr} {n c:Nat} {f:Nat->Nat->Nat} (h:U84 W A n f) (hn:n<=9223372036854775807) {nt:Nat} (h1:1<=nt) (h3:nt<=3):Calls Tryz.prog 5 #[.int .i64 nt,.slice A n c,.int .i64 30,.bool false] W fun e W'=>∃g,e=.returned (.slice (some ⟨g,0,none⟩) nt nt)/\PgAt W nt g 30 W':=by
 obtain⟨j0,hj,jz0,jz1,jz2⟩:=info_parts info_asl
 obtain⟨i0,hi,hz0,hz1,hz2⟩:=info_parts info_act
 have hmk:=fun W=>run_make (P:=Tryz.prog) W 29 31 j0 (.slice none 0 0) Tryz.underlying29 hj jz0 .i64 .i64 nt nt (by omega) (by omega) (by rw[jz2];omega) (by omega)
 simp only[Int.toNat_natCast,jz1,Nat.mul_one] at hmk
 have HH:=Lib.hid h
 have hne:((nt:Int)==0)=false:=beq_eq_false_iff_ne.2 (by omega)
 clear h
 go_enter Tryz.func5,Tryz.ntmps5
 go_wp2_with fail
 go_loopw[10] (fun t wr=>∃i:Nat,i<=n/\i<=30/\t=.int .i64 i/\PgAt W nt W.heap.size i wr) (fun t _=>30-(intOf t).toNat)
 case atStart=>
  refine⟨0,Nat.zero_le _,Nat.zero_le _,rfl,⟨⟨fun _=>.slice none 0 0,fun _=>[],⟨_,_,Blk.new W _ _,by simp[size_madeCells],fun k hk=>made_nil _ k hk⟩,fun t ht=>⟨World.ownsRow_nil _ _ _ _,(fun k hk=>by cases hk),Nat.zero_le _,(fun a ha=>by cases ha),fun _=>rfl⟩,(fun t u ht hu hne k hk=>by cases hk),?_⟩,(Only.refl [] W).alloc _,Nat.le_refl _⟩⟩
  have:=sumN_bound (f:=fun _=>0) (c:=0) nt (fun _ _=>Nat.le_refl _)
  exact Nat.le_trans this (by omega)
 case round=>
  obtain⟨i,hin,hi3,rfl,hpg⟩:=hrel
  have HPG:=Lib.hid hpg
  clear hpg
  rcases Nat.lt_or_ge i n with hlt|hge
  ·have hlt':(i:Int)<n:=by omega
   rcases Nat.lt_or_ge i 30 with h4|h4
   ·have h4':(i:Int)<30:=by omega
    obtain⟨ad,rfl,x0,hx,hb⟩:=(HH.out.still HPG.out.o).at_ i hlt
    have x1:=hx 1 (by decide) (by decide)
    have x2:=hx 2 (by decide) (by decide)
    have x3:=hx 3 (by decide) (by decide)
    have b0:=hb 0
    have b1:=hb 1
    have b2:=hb 2
    have b3:=hb 3
    clear hx hb
    generalize f i 2=y2 at *
    generalize f i 3=y3 at *
    generalize f i 0=y0 at *
    generalize f i 1=y1 at *
    have m0:((y0:Nat):Int).tmod nt=((y0%nt:Nat):Int):=by rw[Int.tmod_eq_emod_of_nonneg (by omega)];rfl
    have m1:((y1:Nat):Int).tdiv 5=((y1/5:Nat):Int):=by rw[Int.tdiv_eq_ediv_of_nonneg (by omega)];rfl
    have m2:(((y1/5:Nat):Nat):Int).tmod 5=((y1/5%5:Nat):Int):=by rw[Int.tmod_eq_emod_of_nonneg (by omega)];rfl
    have m3:((y1:Nat):Int).tmod 5=((y1%5:Nat):Int):=by rw[Int.tmod_eq_emod_of_nonneg (by omega)];rfl
    have m4:((y2:Nat):Int).tmod 3=((y2%3:Nat):Int):=by rw[Int.tmod_eq_emod_of_nonneg (by omega)];rfl
    have k0:y0%nt<nt:=Nat.mod_lt _ (by omega)
    have k2:y1/5%5<5:=Nat.mod_lt _ (by decide)
    have k3:y1%5<5:=Nat.mod_lt _ (by decide)
    have k15:y1/5<52:=by omega
    have k4:y2%3<3:=Nat.mod_lt _ (by decide)
    generalize y0%nt=u at *
    generalize y1/5%5=sl at *
    generalize y1/5=y15 at *
    generalize y1%5=kd at *
    generalize y2%3=wd at *
    have HB:=Lib.hid (⟨b2,b3⟩:y2<256/\y3<256)
    go_upto_region 10 with fail
    obtain⟨Wb,hWb⟩:∃Wb,Wb=wr.alloc (.cells #[.int .i64 kd,.int .i64 (5*(u:Int)+sl),.int .i64 0,.int .i64 0,.int .i64 0,.int .i64 0] 50):=⟨_,rfl⟩
    have hbx:Blk Wb wr.heap.size 50 #[.int .i64 kd,.int .i64 (5*(u:Int)+sl),.int .i64 0,.int .i64 0,.int .i64 0,.int .i64 0]:=by rw[hWb];exact Blk.new _ _ _
    have hoB:Only [] wr Wb:=by rw[hWb];exact(Only.refl [] wr).alloc _
    rw[<-hWb]
    clear hWb
    have x2:=(hoB.cell (World.block_lt_of_cell? wr _ x2) (by simp)).trans x2
    have x3:=(hoB.cell (World.block_lt_of_cell? wr _ x3) (by simp)).trans x3
    generalize hH:wr.heap.size=H at *
    have z0:Wb.cell? ⟨H,0,none⟩=some (.int .i64 kd):=hbx.cell_ 0 rfl
    have z2:Wb.cell? ⟨H,2,none⟩=some (.int .i64 0):=hbx.cell_ 2 rfl
    have z3:Wb.cell? ⟨H,3,none⟩=some (.int .i64 0):=hbx.cell_ 3 rfl
    have z4:Wb.cell? ⟨H,4,none⟩=some (.int .i64 0):=hbx.cell_ 4 rfl
    have z5:Wb.cell? ⟨H,5,none⟩=some (.int .i64 0):=hbx.cell_ 5 rfl
    have f2:=hbx.frozen 2
    have f3:=hbx.frozen 3
    have f4:=hbx.frozen 4
    have f5:=hbx.frozen 5
    have HBX:=Lib.hid hbx
    have HOB:=Lib.hid hoB
    have HHH:=Lib.hid hH
    have hab:(ad.add (i*4)).block≠H:=fun e=>by
     have h9:=World.block_lt_of_cell? wr _ x0
     rw[e,<-hH] at h9
     omega
    have g3:∀v,(Wb.setCell ⟨H,4,none⟩ v).cell? ⟨(ad.add (i*4)).block,(ad.add (i*4)).off+3,none⟩=some (.int .u8 (y3:Nat)):=fun v=>(((Only.refl [H] Wb).setCell (p:=⟨H,4,none⟩) (.inl (by simp)) v).cell (World.block_lt_of_cell? Wb _ x3) (by simpa using hab)).trans x3
    have g2:∀v,(Wb.setCell ⟨H,5,none⟩ v).cell? ⟨(ad.add (i*4)).block,(ad.add (i*4)).off+2,none⟩=some (.int .u8 (y2:Nat)):=fun v=>(((Only.refl [H] Wb).setCell (p:=⟨H,5,none⟩) (.inl (by simp)) v).cell (World.block_lt_of_cell? Wb _ x2) (by simpa using hab)).trans x2
    clear hbx hoB hH x0 x1 hab
    by_cases hk:kd=0
    ·subst hk
     go_upto_region 11 with fail
     go_region_law (first
      |(go_simp;go_at_call 18;refine(sized_at _ y2 y3 HB.out.1 HB.out.2).mono ?_;rintro _ _ ⟨z,rfl,hz12,rfl⟩;have HZ:=Lib.hid hz12;clear hz12))
     all_goals
      have hoE:Only [] wr (((Wb.setCell ⟨H,2,none⟩ (.int .i64 z)).setCell ⟨H,3,none⟩ (.int .i64 8)).drew):=(((HOB.out.setCell (p:=⟨H,2,none⟩) (.inr (Nat.le_of_eq HHH.out)) (.int .i64 z)).setCell (p:=⟨H,3,none⟩) (.inr (Nat.le_of_eq HHH.out)) (.int .i64 8)).drew)
      obtain⟨a,ha,hbE⟩:∃a:Ac,a.Ok u/\Blk (((Wb.setCell ⟨H,2,none⟩ (.int .i64 z)).setCell ⟨H,3,none⟩ (.int .i64 8)).drew) H 50 #[.int .i64 a.k,.int .i64 a.s,.int .i64 a.z,.int .i64 a.al,.int .i64 a.w,.int .i64 a.v]:=⟨⟨0,5*(u:Int)+sl,z,8,0,0⟩,⟨⟨Int.le_refl 0,by show(0:Int)<=4;decide⟩,⟨by dsimp only;omega,by dsimp only;omega⟩,fun _=>⟨HZ.out.1,by have:=HZ.out.2;dsimp only;omega,rfl⟩,⟨by dsimp only;omega,by dsimp only;omega⟩,⟨by dsimp only;omega,by dsimp only;omega⟩,⟨by have:=HZ.out.1;dsimp only;omega,by have:=HZ.out.2;dsimp only;omega,by dsimp only;omega,by dsimp only;omega⟩⟩,(((HBX.out.set_ 2 (.int .i64 z)).set_ 3 (.int .i64 8)).drew)⟩
      have hpe:=HPG.out.still hoE
      generalize (((Wb.setCell ⟨H,2,none⟩ (.int .i64 z)).setCell ⟨H,3,none⟩ (.int .i64 8)).drew)=We at *
      obtain⟨v,A1,n1,c1,xs,rfl,hn32,hv⟩:=hpe.app k0
      obtain⟨hv1,hv2,hv3,hv4,_⟩:=hv We (Only.refl _ _)
      have s0:=hbE.cell_ 0 rfl
      have s1:=hbE.cell_ 1 rfl
      have s2:=hbE.cell_ 2 rfl
      have s3:=hbE.cell_ 3 rfl
      have s4:=hbE.cell_ 4 rfl
      have s5:=hbE.cell_ 5 rfl
      have hbF:=hbE.alloc (.cells #[.int .i64 a.k,.int .i64 a.s,.int .i64 a.z,.int .i64 a.al,.int .i64 a.w,.int .i64 a.v] 50)
      have r0:=hbF.cell_ 0 rfl
      have r1:=hbF.cell_ 1 rfl
      have r2:=hbF.cell_ 2 rfl
      have r3:=hbF.cell_ 3 rfl
      have r4:=hbF.cell_ 4 rfl
      have r5:=hbF.cell_ 5 rfl
      obtain⟨_,ht2,ht3,_,_⟩:=hv (We.alloc (.cells #[.int .i64 a.k,.int .i64 a.s,.int .i64 a.z,.int .i64 a.al,.int .i64 a.w,.int .i64 a.v] 50)) ((Only.refl [] We).alloc _)
      have HPE:=Lib.hid hpe
      have HV2:=Lib.hid (hv (We.drew.alloc (.cells #[.int .i64 a.k,.int .i64 a.s,.int .i64 a.z,.int .i64 a.al,.int .i64 a.w,.int .i64 a.v] 50)) ((Only.refl [] We).drew.alloc _))
      have HA:=Lib.hid ha
      clear hpe hv hbE hbF ha hoE x2 x3 z0 z2 z3 z4 z5 f2 f3 f4 f5 g2 g3 hv1
      rcases Nat.lt_or_ge n1 32 with h32|h32
      ·have h32':(n1:Int)<32:=by omega
       have HNX:=Lib.hid (HV2.out.2.2.2.2 a HA.out h32)
       go_upto_region 14 with fail
       go_region_law (first
        |(go_loud (refine step_appO rfl (.tmp 106) (.tmp 108) W.heap.size 31 50 i0 _ 6 48 Tryz.underlying31 hi hz0 hz1 hz2 rfl (by decide) rfl (B:=⟨We.heap.size,0,none⟩) (m:=1) (cB:=1) (news:=[.int .i64 a.k,.int .i64 a.s,.int .i64 a.z,.int .i64 a.al,.int .i64 a.w,.int .i64 a.v]) rfl rfl HV2.out.1 rfl (cells_new6 We.drew _ _ _ _ _ _ _) (by simp[Value.oneCell']) (by unfold maxLen;omega) (by omega) (by simp;omega) ?_);intro v' w' hown hg hat;obtain⟨A',c',rfl,_⟩:=own_slice hown;obtain⟨u1,u2,u3⟩:=HNX.out _ _ hown hg hat))
       all_goals
        have HU3:=Lib.hid u3
        clear u3
        go_wp2_with fail
        exact⟨⟨i+1,by omega,by omega,by go_num,HU3.out⟩,by show 30-((i:Int)+1).toNat<30-(i:Int).toNat;omega⟩
      ·have h32':¬((n1:Int)<32):=by omega
       go_wp2_with fail
       exact⟨⟨i+1,by omega,by omega,by go_num,HPE.out.up⟩,by show 30-((i:Int)+1).toNat<30-(i:Int).toNat;omega⟩
    ·have hkb:((kd:Int)==0)=false:=beq_eq_false_iff_ne.2 (by omega)
     go_upto_region 12 with fail
     go_region
     all_goals
      have hoE:Only [] wr (((Wb.setCell ⟨H,4,none⟩ (.int .i64 (wd:Nat))).setCell ⟨H,5,none⟩ (.int .i64 (y3:Nat))).drew):=(((HOB.out.setCell (p:=⟨H,4,none⟩) (.inr (Nat.le_of_eq HHH.out)) (.int .i64 (wd:Nat))).setCell (p:=⟨H,5,none⟩) (.inr (Nat.le_of_eq HHH.out)) (.int .i64 (y3:Nat))).drew)
      obtain⟨a,ha,hbE⟩:∃a:Ac,a.Ok u/\Blk (((Wb.setCell ⟨H,4,none⟩ (.int .i64 (wd:Nat))).setCell ⟨H,5,none⟩ (.int .i64 (y3:Nat))).drew) H 50 #[.int .i64 a.k,.int .i64 a.s,.int .i64 a.z,.int .i64 a.al,.int .i64 a.w,.int .i64 a.v]:=⟨⟨kd,5*(u:Int)+sl,0,0,wd,y3⟩,⟨⟨by dsimp only;omega,by dsimp only;omega⟩,⟨by dsimp only;omega,by dsimp only;omega⟩,fun h=>absurd h (by dsimp only;omega),⟨by dsimp only;omega,by dsimp only;omega⟩,⟨by dsimp only;omega,by dsimp only;omega⟩,⟨by dsimp only;omega,by dsimp only;omega,by dsimp only;omega,by dsimp only;omega⟩⟩,(((HBX.out.set_ 4 (.int .i64 (wd:Nat))).set_ 5 (.int .i64 (y3:Nat))).drew)⟩
      have hpe:=HPG.out.still hoE
      generalize (((Wb.setCell ⟨H,4,none⟩ (.int .i64 (wd:Nat))).setCell ⟨H,5,none⟩ (.int .i64 (y3:Nat))).drew)=We at *
      obtain⟨v,A1,n1,c1,xs,rfl,hn32,hv⟩:=hpe.app k0
      obtain⟨hv1,hv2,hv3,hv4,_⟩:=hv We (Only.refl _ _)
      have s0:=hbE.cell_ 0 rfl
      have s1:=hbE.cell_ 1 rfl
      have s2:=hbE.cell_ 2 rfl
      have s3:=hbE.cell_ 3 rfl
      have s4:=hbE.cell_ 4 rfl
      have s5:=hbE.cell_ 5 rfl
      have hbF:=hbE.alloc (.cells #[.int .i64 a.k,.int .i64 a.s,.int .i64 a.z,.int .i64 a.al,.int .i64 a.w,.int .i64 a.v] 50)
      have r0:=hbF.cell_ 0 rfl
      have r1:=hbF.cell_ 1 rfl
      have r2:=hbF.cell_ 2 rfl
      have r3:=hbF.cell_ 3 rfl
      have r4:=hbF.cell_ 4 rfl
      have r5:=hbF.cell_ 5 rfl
      obtain⟨_,ht2,ht3,_,_⟩:=hv (We.alloc (.cells #[.int .i64 a.k,.int .i64 a.s,.int .i64 a.z,.int .i64 a.al,.int .i64 a.w,.int .i64 a.v] 50)) ((Only.refl [] We).alloc _)
      have HPE:=Lib.hid hpe
      have HV2:=Lib.hid (hv (We.drew.alloc (.cells #[.int .i64 a.k,.int .i64 a.s,.int .i64 a.z,.int .i64 a.al,.int .i64 a.w,.int .i64 a.v] 50)) ((Only.refl [] We).drew.alloc _))
      have HA:=Lib.hid ha
      clear hpe hv hbE hbF ha hoE x2 x3 z0 z2 z3 z4 z5 f2 f3 f4 f5 g2 g3 hv1
      rcases Nat.lt_or_ge n1 32 with h32|h32
      ·have h32':(n1:Int)<32:=by omega
       have HNX:=Lib.hid (HV2.out.2.2.2.2 a HA.out h32)
       go_upto_region 14 with fail
       go_region_law (first
        |(go_loud (refine step_appO rfl (.tmp 106) (.tmp 108) W.heap.size 31 50 i0 _ 6 48 Tryz.underlying31 hi hz0 hz1 hz2 rfl (by decide) rfl (B:=⟨We.heap.size,0,none⟩) (m:=1) (cB:=1) (news:=[.int .i64 a.k,.int .i64 a.s,.int .i64 a.z,.int .i64 a.al,.int .i64 a.w,.int .i64 a.v]) rfl rfl HV2.out.1 rfl (cells_new6 We.drew _ _ _ _ _ _ _) (by simp[Value.oneCell']) (by unfold maxLen;omega) (by omega) (by simp;omega) ?_);intro v' w' hown hg hat;obtain⟨A',c',rfl,_⟩:=own_slice hown;obtain⟨u1,u2,u3⟩:=HNX.out _ _ hown hg hat))
       all_goals
        have HU3:=Lib.hid u3
        clear u3
        go_wp2_with fail
        exact⟨⟨i+1,by omega,by omega,by go_num,HU3.out⟩,by show 30-((i:Int)+1).toNat<30-(i:Int).toNat;omega⟩
      ·have h32':¬((n1:Int)<32):=by omega
       go_wp2_with fail
       exact⟨⟨i+1,by omega,by omega,by go_num,HPE.out.up⟩,by show 30-((i:Int)+1).toNat<30-(i:Int).toNat;omega⟩
   ·have h4':¬((i:Int)<30):=by omega
    go_wp2_with fail
    go_ret
    exact⟨_,rfl,HPG.out.to30 hi3⟩
  ·have hlt':¬((i:Int)<n):=by omega
   go_wp2_with fail
   go_ret
   exact⟨_,rfl,HPG.out.to30 hi3⟩
theorem Ctx.boxAdd {P:Hp} {Sc:HS} {w W W2:World} {FP:List Nat} {Ls:World->List Nat->Prop} {bx:List (Nat×TypeId×Array Value)} (F:Framed Ls) (h:Ctx P Sc w FP Ls bx W) (ho:Only [] W W2) {g:Nat} {t:TypeId} {cs:Array Value} (hg:W.heap.size<=g) (hb:Blk W2 g t cs):Ctx P Sc w FP Ls ((g,t,cs)::bx) W2:=by
 have hs:=h.still F ho
 obtain⟨h0,h1,⟨FPc,fs,h2,h3,h4,h5,h6⟩,h7⟩:=h
 have q1:g∉FPc:=fun hx=>by have:=h2.lt g hx;omega
 have q2:g∉fs:=fun hx=>by have:=F.lt h3 g hx;omega
 refine⟨h0,h1.trans (ho.mono (fun b hb=>by cases hb)),⟨FPc,fs,h2.still ho,F.only h3 ho (by simp),h4,h5,fun x hx=>?_⟩,fun x hx=>?_⟩
 ·rcases List.mem_cons.1 hx with rfl|hx
  ·exact⟨q1,q2⟩
  ·exact h6 x hx
 ·rcases List.mem_cons.1 hx with rfl|hx
  ·exact hb
  ·exact hs.blk x hx
set_option maxRecDepth 100000 in
set_option maxHeartbeats 4000000 in
theorem run_at {P:Hp} {pr:Nat->List Ac} {N:Nat} (hN:N<=9999) (F:Fx P pr) (hcl:∀t,t<P.nt->Clr (pr t)) {S:HS} {w W:World} {FP:List Nat} {bx:List (Nat×TypeId×Array Value)} (h:Ctx P S w FP NoL bx W) (hk:RK P pr N S (RZ 16)) (hph:∀t,t<P.nt->S.ph t=.none) {vp vt:Value} {n:Nat} (hp:PrRow W vp P.nt pr) (ht:TSl bx P.nt vt n):
 Calls Tryz.prog 7 #[.pointer (some ⟨P.h,0,none⟩),vp,vt] W fun e W'=>∃Q:RP,e=.returned (.pointer (some ⟨Q.p,0,none⟩))/\∃S' R',RK P pr N S' R'/\Ended P pr S' R'/\Ctx P S' w FP (RunRec P Q pr R') bx W':=by
 have CN:=Lib.hid (by
  obtain⟨h0,h1,⟨FPc,fs,h2,h3,h4,h5,h6⟩,h7⟩:=h
  exact tnew_at F h2 hph hp:Calls Tryz.prog 19 #[.pointer (some ⟨P.h,0,none⟩),vp] W fun e W'=>∃Q:RP,e=.returned (.tuple #[.pointer (some ⟨Q.p,0,none⟩),.int .i64 0])/\Only [] W W'/\∃fs,RunRec P Q pr (RZ 16) W' fs/\∀b∈fs,W.heap.size<=b)
 have HH:=Lib.hid h
 have HK:=Lib.hid hk
 have HT:=Lib.hid ht
 clear h hk hph hp ht
 go_enter Tryz.func7,Tryz.ntmps7
 go_wp2_with fail
 refine CN.out.mono ?_
 rintro r W1 ⟨Q,rfl,ho,fs,hr,hb⟩
 have hc1:Ctx P S w FP (RunRec P Q pr (RZ 16)) bx W1:=by
  obtain⟨fs0,hL,hk⟩:=HH.out.loose
  exact hk _ _ fs (ho.mono (fun b hb=>by cases hb)) hr (fun b hx=>.inr (hb b hx))
 have CP:=Lib.hid (rplay_at F hcl hc1 HK.out HT.out)
 clear hc1 ho hr hb CN
 go_wp2_with fail
 refine CP.out.mono ?_
 rintro r W2 ⟨⟨m,rfl⟩,S2,R2,hk2,hc2⟩
 have CF:=Lib.hid (rfinish_at hN F hcl hc2 hk2)
 clear hc2 hk2 CP
 go_wp2_with fail
 refine CF.out.mono ?_
 rintro r W3 ⟨⟨m3,rfl⟩,S3,R3,hk3,hE3,hc3⟩
 have H3:=Lib.hid (⟨hk3,hE3,hc3⟩:RK P pr N S3 R3/\Ended P pr S3 R3/\Ctx P S3 w FP (RunRec P Q pr R3) bx W3)
 clear hk3 hE3 hc3 CF
 go_wp2_with fail
 go_ret
 exact⟨Q,rfl,S3,R3,H3.out⟩
theorem ends_bg {P P':Hp} {pr:Nat->List Ac} {N N':Nat} (F:Fx P pr) (F':Fx P' pr) (hT:P'.T=P.T) {S S':HS} {R R':RS} (k:RK P pr N S R) (k':RK P' pr N' S' R') (hE:Ended P pr S R) (hE':Ended P' pr S' R') (hf:failE R.ev=false) (hf':failE R'.ev=false) {t:Nat} (ht:t<P.nt) (ht':t<P'.nt):R.bg t=R'.bg t:=
 Nat.le_antisymm (end_le F'.ok hT.symm k'.ri (k'.ra hf') hE' k.ri (k.ra hf) ht' ht) (end_le F.ok hT k.ri (k.ra hf) hE k'.ri (k'.ra hf') ht ht')
theorem ends_told {P P':Hp} {pr:Nat->List Ac} {N N':Nat} (F:Fx P pr) (F':Fx P' pr) (hT:P'.T=P.T) {S S':HS} {R R':RS} (k:RK P pr N S R) (k':RK P' pr N' S' R') (hE:Ended P pr S R) (hE':Ended P' pr S' R') (hf:failE R.ev=false) (hf':failE R'.ev=false) {t:Nat} (ht:t<P.nt) (ht':t<P'.nt):toldE R.ev t=toldE R'.ev t:=by
 rw[(k.ra hf).td t ht,(k'.ra hf').td t ht',hT,ends_bg F F' hT k k' hE hE' hf hf' ht ht']
theorem waitL_eq {P P':Hp} {pr:Nat->List Ac} {R R':RS} (n:Nat) (h:∀t,t<n->R.bg t=R'.bg t):waitL P pr R n=waitL P' pr R' n:=by
 induction n with
 |zero=>rfl
 |succ n ih=>rw[waitL,waitL,ih (fun t ht=>h t (by omega)),h n (by omega)]
def SlotEnd (S:HS) (R:RS) (s:Nat) (x:Option (Int×Int)):Prop:=match x with
 |none=>R.sl s= -1
 |some (u,c)=>0<R.sl s/\I64 (R.sl s)/\∃b,S.lv (R.sl s)=some b/\b.size=u/\S.sp.acc (R.sl s) 1=0/\S.sp.h (R.sl s/8)=c
theorem end_shows {P:Hp} {pr:Nat->List Ac} {N:Nat} (F:Fx P pr) {S:HS} {R:RS} (k:RK P pr N S R) (hE:Ended P pr S R) (hf:failE R.ev=false) {s:Nat} (hs:s/5<P.nt):
 SlotEnd S R s (((sq P.T (pr (s/5)) (R.bg (s/5))).sl s).map (fun x=>(x.1,x.2 0))):=by
 rcases end_slot F.ok k.ri (k.ra hf) hE hs with ⟨h1,h2⟩|⟨u,ws,b,h1,h2,h3,h4,h5⟩
 ·rw[h1];exact h2
 ·rw[h1]
  obtain⟨who,hi⟩:=k.ri.inv
  obtain⟨q1,q2,q3,q4,_⟩:=hi.lrange F.T k.ri.al h3
  refine⟨h2,by unfold I64;omega,b,h3,h4,?_,h5 (by omega)⟩
  have:=hi.lacc F.T k.ri.al h3 (w:=0) (by omega) (by omega)
  simpa using this
theorem ends_slots {P P':Hp} {pr:Nat->List Ac} {N N':Nat} (F:Fx P pr) (F':Fx P' pr) (hT:P'.T=P.T) (hn:P'.nt=P.nt) {S S':HS} {R R':RS} (k:RK P pr N S R) (k':RK P' pr N' S' R') (hE:Ended P pr S R) (hE':Ended P' pr S' R') (hf:failE R.ev=false) (hf':failE R'.ev=false) (s:Nat):∃x,SlotEnd S R s x/\SlotEnd S' R' s x:=by
 by_cases hs:s/5<P.nt
 ·refine⟨_,end_shows F k hE hf hs,?_⟩
  rw[ends_bg F F' hT k k' hE hE' hf hf' hs (by rw[hn];exact hs),<-hT]
  exact end_shows F' k' hE' hf' (by rw[hn];exact hs)
 ·exact⟨none,k.ri.slo s hs,k'.ri.slo s (by rw[hn];exact hs)⟩
theorem Ctx.root {P:Hp} {S:HS} {w W:World} {FP:List Nat} (h3:3<=w.heap.size) (ho:Only [] w W) (hs:HSys P S W FP) (hb:∀b∈FP,w.heap.size<=b):Ctx P S w [] NoL [] W:=
 ⟨⟨(fun b hb=>by cases hb),h3⟩,ho,⟨FP,[],hs,rfl,fun b hx=>.inr (hb b hx),(fun b hb=>by cases hb),(fun x hx=>by cases hx)⟩,(fun x hx=>by cases hx)⟩
theorem tsl_own {P:Hp} {S:HS} {w W1 W2:World} (hc:Ctx P S w [] NoL [] W1) (ho:Only [] W1 W2) {v:Value} {m nt:Nat} {f:Nat->Nat} (hown:W2.ownsRow W1.heap.size 3 1 v m ((modL f nt m).map (Value.int .i64))) (hm:m<=400) (h1:1<=nt):∃bx,Ctx P S w [] NoL bx W2/\TSl bx nt v m:=by
 rcases hown.2 with ⟨rfl,e⟩|⟨g,cap,cur,rfl,hb,hg,hcap,h4,h5,h6⟩
 ·subst e
  exact⟨[],hc.still NoL.framed ho,⟨⟨none,0,rfl,Nat.le_refl _,fun i hi=>by omega⟩,by omega⟩⟩
 ·refine⟨[(g,3,cur)],hc.boxAdd NoL.framed ho hb hg,⟨⟨some ⟨g,0,none⟩,cap,rfl,hcap,fun i hi=>⟨g,0,cur,rfl,by simp,f i%nt,Nat.mod_lt _ h1,?_⟩⟩,by omega⟩⟩
  rw[Nat.zero_add,<-Array.getElem?_toList]
  have:(List.take (m*1) cur.toList)[i]? =some (.int .i64 ((f i%nt:Nat):Int)):=by rw[h6,List.getElem?_map,modL_at f nt m i hi];rfl
  rwa[List.getElem?_take,if_pos (by omega)] at this
def cM (L:Nat->List Ac) (i t:Nat):List Ac:=if t<i then clrL (L t) (L t).length else L t
theorem clrL_nil (l:List Ac) (h:l.length=0):clrL l l.length=[]:=by rw[h];rfl
theorem clrL_ne (l:List Ac) (k:Nat) (hk:k+1<=l.length):0<(clrL l (k+1)).length:=by
 induction k with
 |zero=>
  have h0:l[0]? =some l[0]:=List.getElem?_eq_getElem (by omega)
  rw[clrL,if_neg (by simp[clrL]),h0]
  dsimp only
  unfold clr1
  split<;>simp[clrL]
 |succ k ih=>
  have:=ih (by omega)
  rw[clrL]
  split
  ·exact this
  ·split
   ·rw[List.length_append];omega
   ·exact this
structure ClAt (W0:World) (nt g:Nat) (L:Nat->List Ac) (i:Nat) (w:World):Prop where
 ex:∃pv:Nat->Value,V.Row w g nt pv/\∀t,t<nt->w.ownsRow W0.heap.size 50 6 (pv t) (cM L i t).length (acCells (cM L i t))/\(∀k,(pv t).ownBlock=some k->k≠g)/\((cM L i t).length=0->pv t=.slice none 0 0)
 o:Only [] W0 w
 g0:W0.heap.size<=g
namespace ClAt
variable {W0 w:World} {nt g i:Nat} {L:Nat->List Ac}
theorem start (h:PgAt W0 nt g 30 w):∃L:Nat->List Ac,(∀t,t<nt->(L t).length<=32/\∀a∈L t,a.Ok t)/\sumN (fun t=>(L t).length) nt<=30/\ClAt W0 nt g L 0 w:=by
 obtain⟨⟨pv,L,h1,h2,h3,h4⟩,h5,h6⟩:=h
 exact⟨L,fun t ht=>⟨(h2 t ht).2.2.1,(h2 t ht).2.2.2.1⟩,h4,⟨⟨pv,h1,fun t ht=>by
  have e:cM L 0 t=L t:=if_neg (by omega)
  rw[e]
  exact⟨(h2 t ht).1,(h2 t ht).2.1,(h2 t ht).2.2.2.2⟩⟩,h5,h6⟩⟩
theorem still {w':World} (h:ClAt W0 nt g L i w) (ho:Only [] w w'):ClAt W0 nt g L i w':=by
 obtain⟨⟨pv,h1,h2⟩,h5,h6⟩:=h
 exact⟨⟨pv,h1.only ho (by simp),fun t ht=>⟨own_only (h2 t ht).1 ho (by simp),(h2 t ht).2⟩⟩,h5.trans ho,h6⟩
theorem get (h:ClAt W0 nt g L i w) (hi:i<nt):∃v,w.cell? ⟨g,i,none⟩=some v/\(∃A c,v=.slice A (L i).length c)/\ActsAt w v (L i) v.ownBlock.toList/\((L i).length=0->v=.slice none 0 0)/\
 ∀W' v',Only [] w W'->W'.ownsRow w.heap.size 50 6 v' (clrL (L i) (L i).length).length (acCells (clrL (L i) (L i).length))->((L i).length=0->v'=.slice none 0 0)->(∃u,W'.cell? ⟨g,i,none⟩=some u)/\W'.frozen? ⟨g,i,none⟩=false/\ClAt W0 nt g L (i+1) (W'.setCell ⟨g,i,none⟩ v'):=by
 obtain⟨⟨pv,h1,h2⟩,h5,h6⟩:=h
 obtain⟨q1,q2,q3⟩:=h2 i hi
 have e:cM L i i=L i:=if_neg (by omega)
 rw[e] at q1 q3
 obtain⟨A,c,ev,_⟩:=own_slice q1
 refine⟨pv i,h1.cell hi,⟨A,c,ev⟩,ActsAt.of_own q1,q3,fun W' v' ho hown hnil=>⟨⟨_,(h1.only ho (by simp)).cell hi⟩,(h1.only ho (by simp)).frozen i,?_⟩⟩
 have hgl:=h1.lt
 have hs:=ho.size
 have hset:Only [g] W' (W'.setCell ⟨g,i,none⟩ v'):=(Only.refl [g] W').setCell (p:=⟨g,i,none⟩) (.inl (by simp)) _
 refine⟨⟨fun k=>if k=i then v' else pv k,(h1.only ho (by simp)).set_ i v',fun t ht=>?_⟩,(h5.trans ho).setCell (p:=⟨g,i,none⟩) (.inr h6) _,h6⟩
 by_cases c:t=i
 ·subst c
  have e1:cM L (t+1) t=clrL (L t) (L t).length:=if_pos (by omega)
  rw[e1]
  dsimp only
  rw[if_pos rfl]
  have hk:∀k,v'.ownBlock=some k->k≠g:=fun k hk=>by
   have:=own_base hown k hk
   omega
  refine⟨own_mono (own_only hown hset (fun k hk'=>by simpa using hk k hk')) h5.size,hk,fun h0=>hnil ?_⟩
  rcases Nat.eq_zero_or_pos (L t).length with z|z
  ·exact z
  ·have:=clrL_ne (L t) ((L t).length -1) (by omega)
   rw[show(L t).length -1+1=(L t).length by omega] at this
   omega
 ·obtain⟨r1,r2,r3⟩:=h2 t ht
  have e1:cM L (i+1) t=cM L i t:=by
   unfold cM
   by_cases d:t<i
   ·rw[if_pos d,if_pos (by omega)]
   ·rw[if_neg d,if_neg (by omega)]
  rw[e1]
  dsimp only
  rw[if_neg c]
  exact⟨own_only (own_only r1 ho (by simp)) hset (fun k hk=>by simpa using r2 k hk),r2,r3⟩
theorem done (h:ClAt W0 nt g L nt w):PrRow w (.slice (some ⟨g,0,none⟩) nt nt) nt (fun t=>clrL (L t) (L t).length):=by
 obtain⟨⟨pv,h1,h2⟩,h5,h6⟩:=h
 have e:∀t,t<nt->cM L nt t=clrL (L t) (L t).length:=fun t ht=>if_pos ht
 refine⟨g,nt,pv,(List.range nt).flatMap (fun t=>(pv t).ownBlock.toList),rfl,Nat.le_refl _,h1,fun t ht=>?_,fun t ht hl=>?_⟩
 ·have q:=(h2 t ht).1
  rw[e t ht] at q
  exact(ActsAt.of_own q).mono (fun b hb=>List.mem_flatMap.2 ⟨t,List.mem_range.2 ht,hb⟩)
 ·have q:=(h2 t ht).2.2
  rw[e t ht] at q
  exact q hl
end ClAt
theorem Fx.of {P:Hp} {L:Nat->List Ac} (hT:Z.isTable P.T) (h1:1<=P.na) (h3:P.nt<=3) (hL:∀t,t<P.nt->(L t).length<=32/\∀a∈L t,a.Ok t):Fx P (fun t=>clrL (L t) (L t).length):=
 ⟨hT,h1,h3,fun t ht=>⟨clrL_len _ _,clrL_ok (hL t ht).2 _⟩⟩
set_option maxRecDepth 100000 in
set_option maxHeartbeats 4000000 in
theorem cleared0_at (W:World) (A:Option Addr) (c:Nat):Calls Tryz.prog 6 #[.slice A 0 c] W fun e W'=>e=.returned (.slice none 0 0)/\Only [] W W':=by
 go_enter Tryz.func6,Tryz.ntmps6
 go_wp2_with fail
 go_loopw[3,4] (fun t3 t4 wr=>t3=.slice none 0 0/\t4=.int .i64 0/\Only [] W wr) (fun _ _ _=>0)
 case atStart=>exact⟨rfl,rfl,Only.refl _ _⟩
 case round=>
  obtain⟨rfl,rfl,ho⟩:=hrel
  go_wp2_with fail
  go_ret
  exact⟨rfl,ho⟩
theorem sl_cells {W:World} {R:RS} {base g c:Nat} (h:W.ownsRow base 3 1 (.slice (some ⟨g,0,none⟩) 16 c) 16 ((slL R 16).map (Value.int .i64))):∀w',Only [] W w'->∀j,j<16->w'.cell? ⟨g,j,none⟩=some (.int .i64 (R.sl j)):=by
 intro w' ho j hj
 obtain⟨A,c',e,_,hc⟩:=own_ints (slL_len R 16) h
 obtain⟨g',e2,h,_⟩:=hc w' ho j _ (slL_at R 16 j hj)
 injection e with e _ _
 rw[<-e] at e2
 injection e2 with e2
 injection e2 with e2
 subst e2
 exact h
def tI (l:List (Int×Int)):List Int:=l.flatMap (fun x=>[x.1,x.2])
theorem tflat_tI (l:List (Int×Int)):tflat l=(tI l).map (Value.int .i64):=by
 induction l with
 |nil=>rfl
 |cons x l ih=>
  have h1:tflat (x::l)=[.int .i64 x.1,.int .i64 x.2]++tflat l:=rfl
  have h2:tI (x::l)=[x.1,x.2]++tI l:=rfl
  rw[h1,h2,ih,List.map_append];rfl
theorem tI_len (l:List (Int×Int)):(tI l).length=l.length*2:=by
 have:=congrArg List.length (tflat_tI l)
 rw[tflat_len,List.length_map] at this
 exact this.symm
theorem toldE_le (ev:List Ev) (t:Nat):(toldE ev t).length<=ev.length:=by
 unfold toldE
 rw[List.length_map]
 exact List.length_filter_le _ _
end Go.Proofs.YtcidjimefnhacaaGreatDoor
