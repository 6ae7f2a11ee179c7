/- TopSchedules, a part of the proof: Uw, Ux. -/
import Derived.Test.YtcidjimefnhacaaGreatDoorM49
import Derived.Deep.DeepCutAuto
import Derived.Test.YtcidjimefnhacaaGreatDoorM06
import Derived.LaidMore
import Derived.Stop.Joined
set_option linter.unusedVariables false
set_option linter.unusedSimpArgs false
namespace Go.Proofs.YtcidjimefnhacaaGreatDoor
open Go.RowKit
set_option maxRecDepth 100000 in
set_option maxHeartbeats 32000000 in
theorem TopSchedules_walk (W:World) (hE:V.Env W) (s:Nat->Nat) (hs:∀i,i<6->s i<256) {X Y Zs:Option Addr} {nx cx ny cy nz cz:Nat} {fx:Nat->Nat->Nat} {fy fz:Nat->Nat} (hX:U84 W X nx fx) (hnx:nx<=9223372036854775807) (hY:U8s W Y ny fy) (hny:ny<=9223372036854775807) (hZ:U8s W Zs nz fz) (hnz:nz<=9223372036854775807):
 Calls Tryz.prog 3 #[setV s,.slice X nx cx,.slice Y ny cy,.slice Zs nz cz] W fun e W'=>e=.returned (.bool true)/\Only [] W W':=by
 obtain⟨s',hs',e0,e1⟩:∃s':Nat->Nat,(∀i,i<6->s' i<256)/\s' 0=13/\∀i,0<i->s' i=s i:=⟨fun i=>if i=0 then 13 else s i,fun i hi=>by dsimp only;split;omega;exact hs i hi,if_pos rfl,fun i hi=>if_neg (by omega)⟩
 have hw3:=HpB.env3 hE
 have CCF:∀W',Grew Tryz.prog 4 #[.agg #[.int .u8 13,.int .u8 (s 1:Nat),.int .u8 (s 2:Nat),.int .u8 (s 3:Nat),.int .u8 (s 4:Nat),.int .u8 (s 5:Nat)]] W' (.agg #[.int .i64 256,.int .i64 ((s 1%3+1:Nat):Int),.int .i64 ((s 2%3+1:Nat):Int),.int .i64 (budL.getD (s 3%5) 0),.int .i64 ((s 4%4:Nat):Int)]):=fun W'=>by
  have:=config_at W' s' hs' e0
  unfold setV at this
  rw[e0,e1 1 (by decide),e1 2 (by decide),e1 3 (by decide),e1 4 (by decide),e1 5 (by decide)] at this
  exact this
 have CFR:∀W',V.Env W'->Calls Tryz.prog 8 #[.agg #[.int .u8 13,.int .u8 (s 1:Nat),.int .u8 (s 2:Nat),.int .u8 (s 3:Nat),.int .u8 (s 4:Nat),.int .u8 (s 5:Nat)]] W' fun e W''=>
  ∃P:Hp,e=.returned (.pointer (some ⟨P.h,0,none⟩))/\P.T=Z.makeC ((s 5%15+2:Nat):Int)/\Z.isTable P.T/\1<=P.na/\P.nt=s 2%3+1/\Only [] W' W''/\∃FP,HSys P (HS0 fun _=>.slice none 0 0) W'' FP/\∀b∈FP,W'.heap.size<=b:=fun W' hE'=>by
  have:=fresh_at hE' s' hs' e0
  unfold setV at this
  rw[e0,e1 1 (by decide),e1 2 (by decide),e1 3 (by decide),e1 4 (by decide),e1 5 (by decide)] at this
  refine this.mono ?_
  rintro e W'' ⟨P,h1,h2,h3,h4,h5,h6⟩
  exact⟨P,h1,h2,h3,by omega,h5,h6⟩
 unfold setV
 clear e1 e0 hs' s'
 have hnt3:s 2%3+1<=3:=by have:=Nat.mod_lt (s 2) (show 3>0 by decide);omega
 have hnt1:1<=s 2%3+1:=by omega
 generalize s 2%3+1=nt at *
 generalize s 1%3+1=na at *
 generalize s 4%4=x4 at *
 generalize budL.getD (s 3%5) 0=bu at *
 generalize Z.makeC ((s 5%15+2:Nat):Int)=T at *
 generalize s 0=s0 at *
 generalize s 1=s1 at *
 generalize s 2=s2 at *
 generalize s 3=s3 at *
 generalize s 4=s4 at *
 generalize s 5=s5 at *
 have HCC:=Lib.hid CCF
 have HFR:=Lib.hid CFR
 have HE:=Lib.hid hE
 have HX:=Lib.hid hX
 have HY:=Lib.hid hY
 have HZ:=Lib.hid hZ
 clear CCF CFR hE hX hY hZ hs
 have hb1:=Blk.new W 23 #[.int .u8 13,.int .u8 (s1:Nat),.int .u8 (s2:Nat),.int .u8 (s3:Nat),.int .u8 (s4:Nat),.int .u8 (s5:Nat)]
 have ho1:=(Only.refl [] W).alloc (.cells #[.int .u8 13,.int .u8 (s1:Nat),.int .u8 (s2:Nat),.int .u8 (s3:Nat),.int .u8 (s4:Nat),.int .u8 (s5:Nat)] 23)
 go_enter Tryz.func3,Tryz.ntmps3
 go_wp2_with fail
 generalize W.alloc (.cells #[.int .u8 13,.int .u8 (s1:Nat),.int .u8 (s2:Nat),.int .u8 (s3:Nat),.int .u8 (s4:Nat),.int .u8 (s5:Nat)] 23)=W1 at *
 have HB1:=Lib.hid hb1
 have HO1:=Lib.hid ho1
 clear hb1 ho1
 refine Grew.use (HCC.out W1) (fun W2 ho2=>?_)
 have HO2:=Lib.hid (HO1.out.trans ho2)
 have HB2:=Lib.hid (HB1.out.only ho2 (by simp))
 clear ho2
 go_wp2_with fail
 rw[fld_cfg2]
 go_wp2_with fail
 refine(programs_at (HX.out.still HO2.out) hnx hnt1 hnt3).mono ?_
 rintro r W3 ⟨gP,rfl,hpg⟩
 obtain⟨L,hL,hsum,hcl0⟩:=ClAt.start hpg
 have HL:=Lib.hid (⟨hL,hsum⟩:(∀t,t<nt->(L t).length<=32/\∀a∈L t,a.Ok t)/\sumN (fun t=>(L t).length) nt<=30)
 have HCL:=Lib.hid hcl0
 clear hpg hL hsum hcl0
 go_wp2_with fail
 go_loopw[11] (fun t wr=>∃i:Nat,i<=nt/\t=.int .i64 i/\ClAt W2 nt gP L i wr) (fun t _=>nt-(intOf t).toNat)
 case atStart=>exact⟨0,Nat.zero_le _,rfl,HCL.out⟩
 case round=>
  obtain⟨i,hi,rfl,hA⟩:=hrel
  have HA:=Lib.hid hA
  clear hA
  rcases Nat.lt_or_ge i nt with hlt|hge
  ·have hlt':(i:Int)<nt:=by omega
   obtain⟨v,y0,⟨A,c,rfl⟩,hacts,hnil,hnext⟩:=HA.out.get hlt
   have CL:Hid (Calls Tryz.prog 6 #[.slice A (L i).length c] wr fun e W'=>∃v',e=.returned v'/\W'.ownsRow wr.heap.size 50 6 v' (clrL (L i) (L i).length).length (acCells (clrL (L i) (L i).length))/\((L i).length=0->v'=.slice none 0 0)/\Only [] wr W'):=by
    rcases Nat.eq_zero_or_pos (L i).length with h0|h0
    ·have hc0:=cleared0_at wr A c
     have e1:=clrL_nil (L i) h0
     show Calls ..
     rw[e1,h0]
     refine hc0.mono ?_
     rintro e W' ⟨rfl,ho⟩
     exact⟨_,rfl,World.ownsRow_nil _ _ _ _,fun _=>rfl,ho⟩
    ·refine(cleared_at hacts (HL.out.1 i hlt).1).mono ?_
     rintro e W' ⟨v',h1,h2,h3⟩
     exact⟨v',h1,h2,fun h=>by omega,h3⟩
   have HNX:=Lib.hid hnext
   clear hacts hnil hnext
   generalize (L i).length=n at *
   go_wp2_with fail
   refine CL.out.mono ?_
   rintro r W4 ⟨v',rfl,hown,hn0,ho4⟩
   obtain⟨⟨u0,q1⟩,q2,q3⟩:=HNX.out W4 v' ho4 hown hn0
   obtain⟨A',c',rfl,_⟩:=own_slice hown
   have HQ3:=Lib.hid q3
   clear hown hn0 ho4 q3 y0
   go_wp2_with fail
   exact⟨⟨i+1,by omega,by go_num,HQ3.out⟩,by show nt-((i:Int)+1).toNat<nt-(i:Int).toNat;omega⟩
  ·have hlt':¬((i:Int)<nt):=by omega
   have e:i=nt:=by omega
   have HA2:Hid (ClAt W2 nt gP L nt wr):=e▸HA.out
   have HPR:=Lib.hid HA2.out.done
   have HOR:=Lib.hid (HO2.out.trans HA2.out.o)
   have hsR:=HB2.out.only HA2.out.o (by simp)
   have HSR:=Lib.hid hsR
   have c0:=hsR.cell_ 0 rfl
   have c1:=hsR.cell_ 1 rfl
   have c2:=hsR.cell_ 2 rfl
   have c3:=hsR.cell_ 3 rfl
   have c4:=hsR.cell_ 4 rfl
   have c5:=hsR.cell_ 5 rfl
   clear HA e hge HB2 HB1 HO1 HCL hsR
   go_wp2_with fail
   refine(HFR.out wr (HE.out.only HOR.out (by simp))).mono ?_
   rintro r W4a ⟨Pa,rfl,eTa,hTa,hnaa,hnta,ho4,FPa,hsys,hFPa⟩
   have HFa:=Lib.hid (Fx.of (L:=L) hTa hnaa (by omega) (fun t ht=>HL.out.1 t (by omega)))
   have HCa:=Lib.hid (Ctx.root (HpB.env3 (HE.out.only HOR.out (by simp))) ho4 hsys hFPa)
   have HO4a:=Lib.hid (HOR.out.trans ho4)
   have HEQa:=Lib.hid (⟨eTa,hnta⟩:Pa.T=T/\Pa.nt=nt)
   have HPRa:=Lib.hid (HPR.out.still ho4)
   clear ho4 hsys hFPa hTa hnaa eTa hnta c0 c1 c2 c3 c4 c5
   go_wp2_with fail
   refine(turns_at (HY.out.still HO4a.out) hny hnt1 hnt3).mono ?_
   rintro r W5a ⟨va,rfl,ma,hma,howna,ho5⟩
   obtain⟨bxa,hc5,htsl⟩:=tsl_own HCa.out ho5 howna hma hnt1
   have CRa:=Lib.hid (run_at (N:=8700) (by decide) HFa.out (fun t _=>clrL_clr _ _) hc5 (RK.fresh (fun _=>.slice none 0 0) (by rw[HEQa.out.2];exact HL.out.2)) (fun _ _=>rfl) (by rw[HEQa.out.2];exact HPRa.out.still ho5) (by rw[HEQa.out.2];exact htsl))
   clear ho5 howna hma hc5 htsl HCa
   go_wp2_with fail
   refine CRa.out.mono ?_
   rintro r W6a ⟨Qa,rfl,Sa,Ra,hka,hEa,hca⟩
   have HKa:=Lib.hid (⟨hka,hEa⟩:RK Pa (fun t=>clrL (L t) (L t).length) 8700 Sa Ra/\Ended Pa (fun t=>clrL (L t) (L t).length) Sa Ra)
   have HCTa:=Lib.hid hca
   clear CRa hka hEa hca HO4a
   have HOR6:=Lib.hid (HOR.out.trans HCTa.out.only)
   have HPR6:=Lib.hid (HPR.out.still HCTa.out.only)
   have hsR:=HSR.out.only HCTa.out.only (by simp)
   have c0:=hsR.cell_ 0 rfl
   have c1:=hsR.cell_ 1 rfl
   have c2:=hsR.cell_ 2 rfl
   have c3:=hsR.cell_ 3 rfl
   have c4:=hsR.cell_ 4 rfl
   have c5:=hsR.cell_ 5 rfl
   clear hsR HSR HPR HPRa
   go_wp2_with fail
   refine(HFR.out W6a (HE.out.only HOR6.out (by simp))).mono ?_
   rintro r W4b ⟨Pb,rfl,eTb,hTb,hnab,hntb,ho4,FPb,hsys,hFPb⟩
   have HFb:=Lib.hid (Fx.of (L:=L) hTb hnab (by omega) (fun t ht=>HL.out.1 t (by omega)))
   have HCb:=Lib.hid (Ctx.root (HpB.env3 (HE.out.only HOR6.out (by simp))) ho4 hsys hFPb)
   have HO4b:=Lib.hid (HOR6.out.trans ho4)
   have HEQb:=Lib.hid (⟨eTb,hntb⟩:Pb.T=T/\Pb.nt=nt)
   have HPRb:=Lib.hid (HPR6.out.still ho4)
   clear ho4 hsys hFPb hTb hnab eTb hntb c0 c1 c2 c3 c4 c5
   go_wp2_with fail
   refine(turns_at (HZ.out.still HO4b.out) hnz hnt1 hnt3).mono ?_
   rintro r W5b ⟨vb,rfl,mb,hmb,hownb,ho5⟩
   obtain⟨bxb,hc5,htsl⟩:=tsl_own HCb.out ho5 hownb hmb hnt1
   have CRb:=Lib.hid (run_at (N:=8700) (by decide) HFb.out (fun t _=>clrL_clr _ _) hc5 (RK.fresh (fun _=>.slice none 0 0) (by rw[HEQb.out.2];exact HL.out.2)) (fun _ _=>rfl) (by rw[HEQb.out.2];exact HPRb.out.still ho5) (by rw[HEQb.out.2];exact htsl))
   clear ho5 hownb hmb hc5 htsl HCb
   go_wp2_with fail
   refine CRb.out.mono ?_
   rintro r W6b ⟨Qb,rfl,Sb,Rb,hkb,hEb,hcb⟩
   have HKb:=Lib.hid (⟨hkb,hEb⟩:RK Pb (fun t=>clrL (L t) (L t).length) 8700 Sb Rb/\Ended Pb (fun t=>clrL (L t) (L t).length) Sb Rb)
   have HCTb:=Lib.hid hcb
   clear CRb hkb hEb hcb HO4b
   have HWB:=Lib.hid (HOR6.out.trans HCTb.out.only)
   have HCA:=Lib.hid (HCTa.out.still (RunRec.framed _ _ _ _) HCTb.out.only)
   have hla:Ra.ev.length<=200:=(HKa.out.1.ri.small HFa.out).2
   have hlb:Rb.ev.length<=200:=(HKb.out.1.ri.small HFb.out).2
   clear HCTa HPR6 HPRb HOR6 HOR HX HY HZ HFR HCC
   have CFa:=full_at HCA.out (by omega)
   cases hfa:failE Ra.ev with
   |true=>
    rw[hfa] at CFa
    have CFA:=Lib.hid CFa
    clear CFa
    go_wp2_with fail
    refine Grew.use CFA.out (fun W7 ho7=>?_)
    have HO7:=Lib.hid (HWB.out.trans ho7)
    clear ho7
    go_wp2_with fail
    go_ret
    exact⟨rfl,HO7.out⟩
   |false=>
    rw[hfa] at CFa
    have CFA:=Lib.hid CFa
    clear CFa
    go_wp2_with fail
    refine Grew.use CFA.out (fun W7 ho7=>?_)
    have HO7:=Lib.hid (HWB.out.trans ho7)
    have HA7:=Lib.hid (HCA.out.still (RunRec.framed _ _ _ _) ho7)
    have HB7:=Lib.hid (HCTb.out.still (RunRec.framed _ _ _ _) ho7)
    clear ho7 CFA HCA HCTb HWB
    have CFb:=full_at HB7.out (by omega)
    cases hfb:failE Rb.ev with
    |true=>
     rw[hfb] at CFb
     have CFB:=Lib.hid CFb
     clear CFb
     go_wp2_with fail
     refine Grew.use CFB.out (fun W8 ho8=>?_)
     have HO8:=Lib.hid (HO7.out.trans ho8)
     clear ho8
     go_wp2_with fail
     go_ret
     exact⟨rfl,HO8.out⟩
    |false=>
     rw[hfb] at CFb
     have CFB:=Lib.hid CFb
     clear CFb
     go_wp2_with fail
     refine Grew.use CFB.out (fun W8 ho8=>?_)
     have HO8:=Lib.hid (HO7.out.trans ho8)
     have HA8:=Lib.hid (HA7.out.still (RunRec.framed _ _ _ _) ho8)
     have HB8:=Lib.hid (HB7.out.still (RunRec.framed _ _ _ _) ho8)
     have HTT:Hid (Pb.T=Pa.T):=HEQb.out.1.trans HEQa.out.1.symm
     have HNN:Hid (Pb.nt=Pa.nt):=HEQb.out.2.trans HEQa.out.2.symm
     have HFA:=Lib.hid hfa
     have HFB':=Lib.hid hfb
     clear ho8 CFB HO7 HA7 HB7 hfa hfb
     go_wp2_with fail
     have HTOLD:Hid (∀t,t<nt->toldE Ra.ev t=toldE Rb.ev t):=fun t ht=>ends_told HFa.out HFb.out HTT.out HKa.out.1 HKb.out.1 HKa.out.2 HKb.out.2 HFA.out HFB'.out (by rw[HEQa.out.2];exact ht) (by rw[HEQb.out.2];exact ht)
     have HSL:Hid (∀x,∃y,SlotEnd Sa Ra x y/\SlotEnd Sb Rb x y):=fun x=>ends_slots HFa.out HFb.out HTT.out HNN.out HKa.out.1 HKb.out.1 HKa.out.2 HKb.out.2 HFA.out HFB'.out x
     have HWL:Hid (waitL Pb (fun t=>clrL (L t) (L t).length) Rb Pb.nt=waitL Pa (fun t=>clrL (L t) (L t).length) Ra Pa.nt):=by
      show _=_
      rw[HNN.out]
      exact waitL_eq Pa.nt (fun t ht=>(ends_bg HFa.out HFb.out HTT.out HKa.out.1 HKb.out.1 HKa.out.2 HKb.out.2 HFA.out HFB'.out ht (by rw[HNN.out];exact ht)).symm)
     go_loopw[14] (fun t wr=>∃i:Nat,i<=nt/\t=.int .i64 i/\Only [] W8 wr) (fun t _=>nt-(intOf t).toNat)
     case atStart=>exact⟨0,Nat.zero_le _,rfl,Only.refl _ _⟩
     case round=>
      obtain⟨i2,hi2,rfl,hoR⟩:=hrel
      have HOQ:=Lib.hid hoR
      clear hoR
      rcases Nat.lt_or_ge i2 nt with hlt|hge
      ·have hlt':(i2:Int)<nt:=by omega
       have hlen:=toldE_le Ra.ev i2
       have CTA:=told_at (HA8.out.still (RunRec.framed _ _ _ _) HOQ.out) (by omega) i2
       have CTB:=fun W' (ho:Only [] W8 W')=>told_at (HB8.out.still (RunRec.framed _ _ _ _) ho) (by omega) i2
       rw[<-HTOLD.out i2 hlt] at CTB
       simp only[tflat_tI,<-tI_len] at CTA CTB
       have hll:(tI (toldE Ra.ev i2)).length<=100000:=by rw[tI_len];omega
       generalize tI (toldE Ra.ev i2)=l at *
       have CTAh:=Lib.hid CTA
       have CTBh:=Lib.hid CTB
       clear CTA CTB hlen
       go_wp2_with fail
       refine CTAh.out.mono ?_
       rintro r V1 ⟨va,rfl,hoa,ho1⟩
       have HOA:=Lib.hid hoa
       have HO1':=Lib.hid (HOQ.out.trans ho1)
       clear hoa ho1
       go_wp2_with fail
       refine(CTBh.out V1 HO1'.out).mono ?_
       rintro r V2 ⟨vb,rfl,hob,ho2⟩
       have CI:=ints_at (own_only HOA.out ho2 (by simp)) hob hll
       rw[decide_eq_true (rfl:l=l)] at CI
       have CIh:=Lib.hid CI
       have HO2':=Lib.hid (HO1'.out.trans ho2)
       clear hob ho2 CI
       go_wp2_with fail
       refine Grew.use CIh.out (fun V3 ho3=>?_)
       have HO3':=Lib.hid (HO2'.out.trans ho3)
       clear ho3
       go_wp2_with fail
       exact⟨⟨i2+1,by omega,by go_num,HO3'.out⟩,by show nt-((i2:Int)+1).toNat<nt-(i2:Int).toNat;omega⟩
      ·have hlt':¬((i2:Int)<nt):=by omega
       have hsl:(∀x, -1<=Ra.sl x)/\∀x, -1<=Rb.sl x:=⟨fun x=>by
        obtain⟨y,h1,h2⟩:=HSL.out x
        cases y with
        |none=>have h1':Ra.sl x= -1:=h1
               omega
        |some y=>obtain⟨h3,_⟩:=h1
                 omega,fun x=>by
        obtain⟨y,h1,h2⟩:=HSL.out x
        cases y with
        |none=>have h1':Rb.sl x= -1:=h2
               omega
        |some y=>obtain⟨h3,_⟩:=h2
                 omega⟩
       have CSA:=Lib.hid (rslots_at (HA8.out.still (RunRec.framed _ _ _ _) HOQ.out) hsl.1)
       have CSB:=Lib.hid (fun W' (ho:Only [] W8 W')=>rslots_at (HB8.out.still (RunRec.framed _ _ _ _) ho) hsl.2)
       have CWA:=Lib.hid (fun W' (ho:Only [] W8 W')=>rwaiting_at HFa.out (HA8.out.still (RunRec.framed _ _ _ _) ho) HKa.out.2)
       have CWB:=fun W' (ho:Only [] W8 W')=>rwaiting_at HFb.out (HB8.out.still (RunRec.framed _ _ _ _) ho) HKb.out.2
       rw[HWL.out] at CWB
       have CWBh:=Lib.hid CWB
       clear hsl CWB hge
       go_wp2_with fail
       refine CSA.out.mono ?_
       rintro r V1 ⟨vp,rfl,hp,ho1⟩
       obtain⟨gp,cp,rfl,_,_⟩:=own_form hp (by decide)
       have HP1:=Lib.hid hp
       have HV1:=Lib.hid (HOQ.out.trans ho1)
       clear hp ho1 CSA
       go_wp2_with fail
       refine(CSB.out V1 HV1.out).mono ?_
       rintro r V2 ⟨vq,rfl,hq,ho2⟩
       obtain⟨gq,cq,rfl,_,_⟩:=own_form hq (by decide)
       have HP2:=Lib.hid (own_only HP1.out ho2 (by simp))
       have HQ2:=Lib.hid hq
       have HV2:=Lib.hid (HV1.out.trans ho2)
       clear hq ho2 CSB HP1
       go_wp2_with fail
       refine(CWA.out V2 HV2.out).mono ?_
       rintro r V3 ⟨vw,rfl,hw,ho3⟩
       obtain⟨Aw,cw,rfl,_⟩:=own_slice hw
       have HV3:=Lib.hid (HV2.out.trans ho3)
       have HP3:=Lib.hid (own_only HP2.out ho3 (by simp))
       have HQ3:=Lib.hid (own_only HQ2.out ho3 (by simp))
       clear hw ho3 CWA HP2 HQ2
       go_wp2_with fail
       refine(CWBh.out V3 HV3.out).mono ?_
       rintro r V4 ⟨vx,rfl,hx,ho4⟩
       obtain⟨Ax,cx',rfl,_⟩:=own_slice hx
       have HV4:=Lib.hid (HV3.out.trans ho4)
       have HP4:=Lib.hid (own_only HP3.out ho4 (by simp))
       have HQ4:=Lib.hid (own_only HQ3.out ho4 (by simp))
       clear hx ho4 CWBh HP3 HQ3
       generalize (waitL Pa (fun t=>clrL (L t) (L t).length) Ra Pa.nt).length=wl at *
       go_wp2_with fail
       have HPC:=Lib.hid (sl_cells HP4.out)
       have HQC:=Lib.hid (sl_cells HQ4.out)
       clear HP4 HQ4
       go_loopw[17] (fun t wr=>∃i:Nat,i<=16/\t=.int .i64 i/\Only [] V4 wr) (fun t _=>16-(intOf t).toNat)
       case atStart=>exact⟨0,Nat.zero_le _,rfl,Only.refl _ _⟩
       case round=>
        obtain⟨i3,hi3,rfl,hoR⟩:=hrel
        have HOX:=Lib.hid hoR
        clear hoR
        rcases Nat.lt_or_ge i3 16 with hlt3|hge3
        ·have hlt3':(i3:Int)<16:=by omega
         have p0:=HPC.out wr HOX.out i3 hlt3
         have q0:=HQC.out wr HOX.out i3 hlt3
         obtain⟨y,hya,hyb⟩:=HSL.out i3
         cases y with
         |none=>
          have e1:Ra.sl i3= -1:=hya
          have e2:Rb.sl i3= -1:=hyb
          rw[e1] at p0
          rw[e2] at q0
          clear hya hyb e1 e2
          go_upto_region 24 with fail
          go_quiet (fail)
          go_wp2_with fail
          exact⟨⟨i3+1,by omega,by go_num,HOX.out.drewN _⟩,by show 16-((i3:Int)+1).toNat<16-(i3:Int).toNat;omega⟩
         |some y=>
          obtain⟨u,c⟩:=y
          obtain⟨la,ia,ba,lva,sza,acca,ha⟩:=hya
          obtain⟨lb,ib,bb,lvb,szb,accb,hb⟩:=hyb
          have CHA:=Lib.hid (fun W' (ho:Only [] V4 W')=>rheap_at (HA8.out.still (RunRec.framed _ _ _ _) (HV4.out.trans ho)))
          have CHB:=Lib.hid (fun W' (ho:Only [] V4 W')=>rheap_at (HB8.out.still (RunRec.framed _ _ _ _) (HV4.out.trans ho)))
          have CUA:Hid (∀W',Only [] V4 W'->Grew Tryz.prog 16 #[.pointer (some ⟨Pa.h,0,none⟩),.int .i64 (Ra.sl i3)] W' (.tuple #[.int .i64 u,.int .i64 0])):=fun W' ho=>by
           obtain⟨F,hs⟩:=(HA8.out.still (RunRec.framed _ _ _ _) (HV4.out.trans ho)).sys_
           have:=husable_at hs ia lva
           rwa[sza] at this
          have CUB:Hid (∀W',Only [] V4 W'->Grew Tryz.prog 16 #[.pointer (some ⟨Pb.h,0,none⟩),.int .i64 (Rb.sl i3)] W' (.tuple #[.int .i64 u,.int .i64 0])):=fun W' ho=>by
           obtain⟨F,hs⟩:=(HB8.out.still (RunRec.framed _ _ _ _) (HV4.out.trans ho)).sys_
           have:=husable_at hs ib lvb
           rwa[szb] at this
          have CRA:Hid (∀W',Only [] V4 W'->Grew Tryz.prog 17 #[.pointer (some ⟨Pa.h,0,none⟩),.int .i64 (Ra.sl i3)] W' (.tuple #[.int .i64 c,.int .i64 0])):=fun W' ho=>by
           obtain⟨F,hs⟩:=(HA8.out.still (RunRec.framed _ _ _ _) (HV4.out.trans ho)).sys_
           have:=hread_at hs _ ia
           rwa[acca,if_pos rfl,ha] at this
          have CRB:Hid (∀W',Only [] V4 W'->Grew Tryz.prog 17 #[.pointer (some ⟨Pb.h,0,none⟩),.int .i64 (Rb.sl i3)] W' (.tuple #[.int .i64 c,.int .i64 0])):=fun W' ho=>by
           obtain⟨F,hs⟩:=(HB8.out.still (RunRec.framed _ _ _ _) (HV4.out.trans ho)).sys_
           have:=hread_at hs _ ib
           rwa[accb,if_pos rfl,hb] at this
          have HPD:=Lib.hid (fun w' (ho:Only [] V4 w')=>HPC.out w' ho i3 hlt3)
          have HQD:=Lib.hid (fun w' (ho:Only [] V4 w')=>HQC.out w' ho i3 hlt3)
          clear lva lvb acca accb ha hb sza szb ia ib
          generalize Ra.sl i3=pa at *
          generalize Rb.sl i3=pb at *
          have d1:decide (pa<=0)=false:=decide_eq_false (by omega)
          have d2:decide (pb<=0)=false:=decide_eq_false (by omega)
          have d3:¬(pa<=0):=by omega
          have d4:¬(pb<=0):=by omega
          have hod:=HOX.out
          replace hod:=Only.drew hod
          go_upto_region 26 with fail
          go_region_held3 (fun w'=>w'.cell? ⟨gp,i3,none⟩=some (.int .i64 pa))
           (exact HPD.out _ hod)
           (first
            |(go_at_call 15;(with_reducible refine Still.use (CHA.out _ hod) ?_))
            |(go_at_call 16;(with_reducible refine Grew.use (CUA.out _ hod) (fun wN hoN=>?_));replace hod:=Only.trans hod hoN;clear hoN))
          replace hod:=Only.drew hod
          go_upto_region 27 with fail
          go_region_held3 (fun w'=>w'.cell? ⟨gq,i3,none⟩=some (.int .i64 pb))
           (exact HQD.out _ hod)
           (first
            |(go_at_call 15;(with_reducible refine Still.use (CHB.out _ hod) ?_))
            |(go_at_call 16;(with_reducible refine Grew.use (CUB.out _ hod) (fun wN hoN=>?_));replace hod:=Only.trans hod hoN;clear hoN))
          replace hod:=Only.drew hod
          go_upto_region 28 with fail
          go_region_held3 (fun w'=>w'.cell? ⟨gp,i3,none⟩=some (.int .i64 pa))
           (exact HPD.out _ hod)
           (first
            |(go_at_call 15;(with_reducible refine Still.use (CHA.out _ hod) ?_))
            |(go_at_call 17;(with_reducible refine Grew.use (CRA.out _ hod) (fun wN hoN=>?_));replace hod:=Only.trans hod hoN;clear hoN))
          replace hod:=Only.drew hod
          go_upto_region 29 with fail
          go_region_held3 (fun w'=>w'.cell? ⟨gq,i3,none⟩=some (.int .i64 pb))
           (exact HQD.out _ hod)
           (first
            |(go_at_call 15;(with_reducible refine Still.use (CHB.out _ hod) ?_))
            |(go_at_call 17;(with_reducible refine Grew.use (CRB.out _ hod) (fun wN hoN=>?_));replace hod:=Only.trans hod hoN;clear hoN))
          go_wp2_with fail
          exact⟨⟨i3+1,by omega,by go_num,hod⟩,by show 16-((i3:Int)+1).toNat<16-(i3:Int).toNat;omega⟩
        ·have hlt3':¬((i3:Int)<16):=by omega
         go_wp2_with fail
         go_ret
         exact⟨rfl,(HO8.out.trans HV4.out).trans HOX.out⟩
open Go.ChangeShapes Go.WideShapes Go.ChangeAt Go.WideMaps Go.WideElems
theorem gU:Tryz.prog.globalNamed "freehold/space.unmapped" =some 0:=by kernel_rfl
theorem gC:Tryz.prog.globalNamed "freehold/space.clean" =some 2:=by kernel_rfl
theorem gD:Tryz.prog.globalNamed "freehold/space.dirty" =some 1:=by kernel_rfl
theorem tU:(Tryz.prog.globals[0]?).map (·.type)=some 156:=by kernel_rfl
theorem tC:(Tryz.prog.globals[2]?).map (·.type)=some 156:=by kernel_rfl
theorem tD:(Tryz.prog.globals[1]?).map (·.type)=some 156:=by kernel_rfl
def laid3 {H:Type}:List (String×DataW H):=[("freehold/space.unmapped",Rows.laid_freehold_space_unmapped),("freehold/space.clean",Rows.laid_freehold_space_clean),("freehold/space.dirty",Rows.laid_freehold_space_dirty)]
theorem door_met (os:Os) (args:Array Value):laidMetH Tryz.prog laid3 ((World.doorLaid Tryz.prog 400 os).forCall (fun _ _=>0) ⟨#[],args,[]⟩).memory:=
 laidMetH_of_parts3 (fuel:=8) (laidMet_of_run' 8 (by kernel_rfl) (by kernel_rfl)) (by kernel_rfl) (by kernel_rfl)
section
variable {H:Type} {enc:TypeId×Value->H} {P:Program} {w:World} {base:Nat} {spare:Nat->Bool} {held:Bool}
theorem two_bools {fuel:Nat} {t:TypeId} {f0 f1:Field} {cs:Array Value} {a b:Bool} {q:List MemPlace} (hs:P.underlying t=some (.struct #[f0,f1])) (hone:Go.Deep.oneCellFields P #[f0,f1]=true) (hC:P.cellsOf t=2)
 (k0:P.underlying f0.type=some .bool) (k1:P.underlying f1.type=some .bool) (h:DataW.trod enc P w base spare held fuel t cs.toList=some (.agg [.lit (.bool a),.lit (.bool b)],q)):cs[0]? =some (.bool a)/\cs[1]? =some (.bool b):=by
 obtain⟨y0,y1,n,hx,hl,t0,t1⟩:=trod_struct2 hs h
 obtain⟨o0,c0⟩:=Go.Deep.hone_of hone 0 f0 rfl
 obtain⟨o1,c1⟩:=Go.Deep.hone_of hone 1 f1 rfl
 rw[o0,c0] at t0
 rw[o1,c1] at t1
 obtain⟨x0,e0,r0⟩:=DataW.trod_bool k0 t0
 obtain⟨x1,e1,r1⟩:=DataW.trod_bool k1 t1
 rw[hC] at hl
 obtain⟨l⟩:=cs
 match l,hl with
 | [v0,v1],_=>
   simp only[Prod.mk.injEq,DataW.agg.injEq,List.cons.injEq] at hx
   obtain⟨⟨h0,h1,_⟩,_⟩:=hx
   rw[r0] at h0
   rw[r1] at h1
   simp at h0 h1 e0 e1
   subst h0 h1 e0 e1
   exact⟨rfl,rfl⟩
end
theorem of_laid {W:World} (h:laidMetH Tryz.prog laid3 W):V.Env W:=by
 rw[MakeChecks.laidMetH_plain _ _ _ (by kernel_rfl)] at h
 obtain⟨ps,⟨g0,t0,cs0,f0,p0,q0,hg0,ht0,hv0,hd0,⟨g1,t1,cs1,f1,p1,q1,hg1,ht1,hv1,hd1,⟨g2,t2,cs2,f2,p2,q2,hg2,ht2,hv2,hd2,_,_⟩,_⟩,_⟩,_,_⟩:=h
 obtain rfl:=Option.some.inj (gU.symm.trans hg0)
 obtain rfl:=Option.some.inj (gC.symm.trans hg1)
 obtain rfl:=Option.some.inj (gD.symm.trans hg2)
 obtain rfl:=Option.some.inj (tU.symm.trans ht0)
 obtain rfl:=Option.some.inj (tC.symm.trans ht1)
 obtain rfl:=Option.some.inj (tD.symm.trans ht2)
 obtain⟨a0,a1⟩:=two_bools (a:=false) (b:=false) Tryz.underlying156 (by kernel_rfl) (by kernel_rfl) Tryz.underlying4 Tryz.underlying4 hd0
 obtain⟨b0,b1⟩:=two_bools (a:=true) (b:=false) Tryz.underlying156 (by kernel_rfl) (by kernel_rfl) Tryz.underlying4 Tryz.underlying4 hd1
 obtain⟨d0,d1⟩:=two_bools (a:=true) (b:=true) Tryz.underlying156 (by kernel_rfl) (by kernel_rfl) Tryz.underlying4 Tryz.underlying4 hd2
 exact⟨(World.var?_cell hg0 hv0 0).trans a0,(World.var?_cell hg0 hv0 1).trans a1,(World.var?_cell hg1 hv1 0).trans b0,(World.var?_cell hg1 hv1 1).trans b1,(World.var?_cell hg2 hv2 0).trans d0,(World.var?_cell hg2 hv2 1).trans d1⟩
section
open Go.Joins Go.Deep
variable {H:Type} {enc:TypeId×Value->H} {P:Program} {w:World} {base:Nat} {spare:Nat->Bool} {held:Bool}
theorem array6 {α:Type} {cs:Array α} (h:cs.size=6):∃c0 c1 c2 c3 c4 c5,cs=#[c0,c1,c2,c3,c4,c5]:=by
 obtain⟨l⟩:=cs
 match l,h with
 | [c0,c1,c2,c3,c4,c5],_=>exact⟨c0,c1,c2,c3,c4,c5,rfl⟩
theorem trod_u8s {n fuel:Nat} {t e:TypeId} {cs:List Value} {x:DataW H×List MemPlace} (ht:P.underlying t=some (.array n e)) (he:P.underlying e=some (.int .u8)) (hc:P.cellsOf e=1) (h:DataW.trod enc P w base spare held fuel t cs=some x) (hn:n<=cs.length):
 ∀i,i<n->∃y:Nat,cs[i]? =some (.int .u8 (y:Nat))/\y<256:=by
 obtain⟨xs,m,_,_,_,hxl,hi⟩:=DataW.trod_array ht h
 intro i hin
 have h1:=hi i hin
 rw[hc,Nat.mul_one,List.getElem?_eq_getElem (by omega)] at h1
 obtain⟨z,e1,_,wf⟩:=DataW.trod_int he h1
 obtain⟨b0,b1⟩:=bounds_u8 wf
 rw[List.drop_eq_getElem_cons (by omega)] at e1
 simp only[List.take_succ_cons,List.take_zero] at e1
 injection e1 with e1 _
 refine⟨z.toNat,?_,by omega⟩
 rw[List.getElem?_eq_getElem (by omega),e1,show((z.toNat:Nat):Int)=z by omega]
theorem open_set {r:Reach} {b0:Nat} {t e:TypeId} {v:Value} {d:DataW H} {p:List MemPlace} (ht:P.underlying t=some (.array 6 e)) (he:P.underlying e=some (.int .u8)) (hC:P.cellsOf t=6) (hc:P.cellsOf e=1)
 (hv:Value.okWide P w r b0 t v) (h:DataW.Trod enc P w base spare held t v d p):∃s:Nat->Nat,v=setV s/\∀i,i<6->s i<256:=by
 simp only[Value.okWide,ht] at hv
 obtain⟨cs,rfl,hsz,_⟩:=hv
 obtain⟨c0,c1,c2,c3,c4,c5,rfl⟩:=array6 (hsz.trans hC)
 obtain⟨fuel,hf⟩:=h
 have key:=trod_u8s ht he hc hf (by simp[Value.cells])
 obtain⟨y0,e0,l0⟩:=key 0 (by decide)
 obtain⟨y1,e1,l1⟩:=key 1 (by decide)
 obtain⟨y2,e2,l2⟩:=key 2 (by decide)
 obtain⟨y3,e3,l3⟩:=key 3 (by decide)
 obtain⟨y4,e4,l4⟩:=key 4 (by decide)
 obtain⟨y5,e5,l5⟩:=key 5 (by decide)
 simp[Value.cells] at e0 e1 e2 e3 e4 e5
 subst e0 e1 e2 e3 e4 e5
 refine⟨fun i=>if i=0 then y0 else if i=1 then y1 else if i=2 then y2 else if i=3 then y3 else if i=4 then y4 else y5,rfl,fun i hi=>?_⟩
 rcases (show i=0\/i=1\/i=2\/i=3\/i=4\/i=5 by omega) with rfl|rfl|rfl|rfl|rfl|rfl<;>assumption
theorem add_j {a:Addr} {v:Value} (h:w.cell? a=some v) (j:Nat):a.add j=⟨a.block,a.off+j,none⟩:=by
 obtain⟨b,o,sp⟩:=a
 have hs:sp=none:=by simpa using World.cell?_spot h
 subst hs
 unfold Addr.add
 split
 ·rename_i h0;subst h0;simp
 ·simp
theorem add_block (a:Addr) (j:Nat):(a.add j).block=a.block:=by
 unfold Addr.add
 split<;>rfl
theorem open_u8s {r:Reach} {b0:Nat} {t e:TypeId} {v:Value} {d:DataW H} {p:List MemPlace} (ht:P.underlying t=some (.slice e)) (he:P.underlying e=some (.int .u8)) (hc:P.cellsOf e=1)
 (hv:Value.okWide P w r b0 t v) (h:DataW.Trod enc P w base spare held t v d p):∃(A:Option Addr) (n c:Nat) (f:Nat->Nat),v=.slice A n c/\n<=9223372036854775807/\U8s w A n f:=by
 obtain⟨A,n,c,rfl⟩:=okWide_slice ht hv
 obtain⟨fuel,hf⟩:=h
 rcases open_slice1 ht hc hf with ⟨hcs,_⟩|⟨a,len,cap,m,fu,V,D,Pl,hcs,_,hl,hm,hmm,_,hi⟩
 ·simp[Value.cells] at hcs
  obtain⟨rfl,rfl,rfl⟩:=hcs
  exact⟨none,0,0,fun _=>0,rfl,by omega,⟨fun i hi=>by omega⟩⟩
 ·simp[Value.cells] at hcs
  obtain⟨rfl,rfl,rfl⟩:=hcs
  have hml:n<=m:=by rw[hmm];split<;>omega
  have key:∀i,i<n->∃y:Nat,w.cell? (a.add i)=some (.int .u8 (y:Nat))/\y<256:=fun i hin=>by
   obtain⟨h1,h2⟩:=hi i (by omega)
   obtain⟨z,e1,_,wf⟩:=DataW.trod_int he h2
   obtain⟨z0,z1⟩:=bounds_u8 wf
   injection e1 with e1 _
   exact⟨z.toNat,by rw[h1,e1,show((z.toNat:Nat):Int)=z by omega],by omega⟩
  obtain⟨F,hF⟩:∃F:Nat->Nat,∀i,i<n->w.cell? (a.add i)=some (.int .u8 (F i:Nat))/\F i<256:=⟨fun i=>if h:i<n then Classical.choose (key i h) else 0,fun i h=>by
   simp only[dif_pos h]
   exact Classical.choose_spec (key i h)⟩
  refine⟨some a,n,c,F,rfl,?_,⟨fun i hin=>?_⟩⟩
  ·have:c<=maxLen:=hm
   unfold maxLen at this
   omega
  ·obtain⟨h1,h2⟩:=hF i hin
   refine⟨a,rfl,?_,h1,h2⟩
   have:=World.block_lt_of_cell? w _ h1
   rwa[add_block] at this
theorem open_u84s {r:Reach} {b0:Nat} {t e q:TypeId} {v:Value} {d:DataW H} {p:List MemPlace} (ht:P.underlying t=some (.slice e)) (he:P.underlying e=some (.array 4 q)) (hq:P.underlying q=some (.int .u8)) (hC:P.cellsOf e=4) (hc:P.cellsOf q=1)
 (hv:Value.okWide P w r b0 t v) (h:DataW.Trod enc P w base spare held t v d p):∃(A:Option Addr) (n c:Nat) (f:Nat->Nat->Nat),v=.slice A n c/\n<=9223372036854775807/\U84 w A n f:=by
 obtain⟨A,n,c,rfl⟩:=okWide_slice ht hv
 obtain⟨fuel,hf⟩:=h
 rcases open_slice ht hf with ⟨hcs,_⟩|⟨a,len,cap,m,fu,D,Pl,hcs,_,hl,hm,hmm,_,hi⟩
 ·simp[Value.cells] at hcs
  obtain⟨rfl,rfl,rfl⟩:=hcs
  exact⟨none,0,0,fun _ _=>0,rfl,by omega,⟨fun i hi=>by omega⟩⟩
 ·simp[Value.cells] at hcs
  obtain⟨rfl,rfl,rfl⟩:=hcs
  have hml:n<=m:=by rw[hmm];split<;>omega
  have key:∀i j,i<n/\j<4->∃y:Nat,w.cell? ((a.add (i*4)).add j)=some (.int .u8 (y:Nat))/\y<256:=fun i j hij=>by
   obtain⟨cs',h1,h2⟩:=hi i (by omega)
   rw[hC] at h1
   obtain⟨_,hcl,hat⟩:=World.cells?_some h1
   obtain⟨y,e1,l1⟩:=trod_u8s he hq hc h2 (by omega) j hij.2
   exact⟨y,(hat j hij.2).trans e1,l1⟩
  obtain⟨F,hF⟩:∃F:Nat->Nat->Nat,∀i j,F i j<256/\(i<n/\j<4->w.cell? ((a.add (i*4)).add j)=some (.int .u8 (F i j:Nat))):=⟨fun i j=>if h:i<n/\j<4 then Classical.choose (key i j h) else 0,fun i j=>by
   by_cases h:i<n/\j<4
   ·simp only[dif_pos h]
    exact⟨(Classical.choose_spec (key i j h)).2,fun _=>(Classical.choose_spec (key i j h)).1⟩
   ·simp only[dif_neg h]
    exact⟨by omega,fun h'=>absurd h' h⟩⟩
  refine⟨some a,n,c,F,rfl,?_,⟨fun i hin=>?_⟩⟩
  ·have:c<=maxLen:=hm
   unfold maxLen at this
   omega
  ·have h0:=(hF i 0).2 ⟨hin,by decide⟩
   have e0:(a.add (i*4)).add 0=a.add (i*4):=by
    show(if 0=0 then a.add (i*4) else _)=_
    rw[if_pos rfl]
   rw[e0] at h0
   refine⟨a,rfl,h0,fun j hj0 hj=>?_,fun j=>(hF i j).1⟩
   rw[<-add_j h0]
   exact(hF i j).2 ⟨hin,hj⟩
end
end Go.Proofs.YtcidjimefnhacaaGreatDoor
