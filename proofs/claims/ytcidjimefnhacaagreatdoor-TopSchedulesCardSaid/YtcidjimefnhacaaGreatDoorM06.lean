/- TopSchedules, a part of the proof: VI, VJ, VK, Row, SpPure, SpA. -/
import Derived.Test.YtcidjimefnhacaaGreatDoorM05
import Derived.Deep.OwnRows
import Derived.Test.YtcidjimefnhacaaGreatDoorM01
import Derived.ProofKit
import Derived.OpenShut
import Derived.ShutString
import Derived.ChangeOld
import Derived.Deep.Slices
import Derived.Deep.Fields
import Derived.ChangeSame
import Derived.Lib.SmallJoins
set_option linter.unusedVariables false
set_option linter.unusedSimpArgs false
namespace Go.Proofs.YtcidjimefnhacaaGreatDoor.V
open Go.RowKit
open Go.ChangeMaps Go.Maps
theorem SpM.putW_st (m:SpM) (j v i:Int):(m.putW j v).st i=if i=j/32 then 2 else m.st i:=rfl
theorem SpM.putW_h (m:SpM) (j v i:Int):(m.putW j v).h i=if i=j then v else m.h i:=rfl
theorem SpM.putW_good {m:SpM} (hg:m.good) {j v:Int} (h0:0<=j) (h1:j<32*m.n) (hv:I64 v):(m.putW j v).good:=by
 have hd:(m.putW j v).dirty=cntTo (fun i=>if i=j/32 then 2 else m.st i) 2 m.n:=rfl
 refine⟨hg.n1,hg.n2,fun i=>?_,fun i hi=>?_,fun i=>?_,?_,?_⟩
 ·rw[putW_st]
  split
  ·omega
  ·exact hg.s1 i
 ·rw[putW_st] at hi
  rw[putW_h]
  by_cases e:i/32=j/32
  ·rw[if_pos e] at hi;exact absurd rfl hi
  ·rw[if_neg e] at hi
   rw[if_neg (by intro e';rw[e'] at e;exact e rfl)]
   exact hg.h0 i hi
 ·rw[putW_h]
  split
  ·exact hv
  ·exact hg.h1 i
 ·rw[hd]
  show _<=(if m.st (j/32)=2 then m.pk else max m.pk (cntTo (fun i=>if i=j/32 then 2 else m.st i) 2 m.n))
  split
  ·rename_i e
   have:=cntTo_congr (st:=fun i=>if i=j/32 then 2 else m.st i) (st':=m.st) (v:=2) m.n (fun i _=>by
    by_cases e':(i:Int)=j/32
    ·rw[if_pos e',e',e]
    ·rw[if_neg e'])
   rw[this]
   exact hg.p0
  ·omega
 ·show(if m.st (j/32)=2 then m.pk else max m.pk (cntTo (fun i=>if i=j/32 then 2 else m.st i) 2 m.n))<=1024
  have:=cntTo_le (fun i=>if i=j/32 then 2 else m.st i) 2 m.n
  have:=hg.n2
  have:=hg.p1
  split<;>omega
theorem Parts.put2 {w:World} {p:Nat} {l:List Nat} {m:SpM} {gp cap gm:Nat} {G:Int->Option Nat} (h:Parts w p l m gp cap gm G) {j v:Int} (h0:0<=j) (h1:j<32*m.n) (hst:m.st (j/32)=2) {g:Nat} (hG:G (j/32)=some g):
 Parts (w.setCell ⟨g,(j%32).toNat,none⟩ (.int .i64 v)) p l (m.putW j v) gp cap gm G:=by
 obtain⟨a1,a2,a3,a4,a5,a6,b1,b2,b3,b4,b5,b6,b7⟩:=h
 obtain⟨_,g1,g2,g3,g4,g5⟩:=b5 _ _ hG
 have hs:(m.putW j v).st=m.st:=by funext i;rw[SpM.putW_st];split;rename_i e;rw[e,hst];rfl
 have hpk:(m.putW j v).pk=m.pk:=if_pos hst
 have hd:(m.putW j v).dirty=m.dirty:=by unfold SpM.dirty;rw[hs];rfl
 have ho:Only [g] w (w.setCell ⟨g,(j%32).toNat,none⟩ (.int .i64 v)):=(Only.refl [g] w).setCell (.inl (by simp)) _
 refine⟨a1,a2,a3,a4,a5,a6,?_,b2,?_,?_,fun i g' hi=>?_,fun i c1 c2 c3=>b6 i c1 c2 (by rw[hs] at c3;exact c3),b7⟩
 ·rw[hpk];exact b1.only ho (by simpa using g2.symm)
 ·rw[hs];exact b3.only ho (by simpa using g3.symm)
 ·rw[hd];exact b4.only ho (by simpa using g4.symm)
 ·obtain⟨c1,c2,c3,c4,c5,c6⟩:=b5 i g' hi
  refine⟨⟨c1.1,c1.2.1,by rw[hs];exact c1.2.2⟩,c2,c3,c4,c5,?_⟩
  by_cases e:g'=g
  ·subst e
   have e2:=b7 _ _ _ hi hG
   subst e2
   refine(c6.set_ _ _).congr fun k hk=>?_
   rw[SpM.putW_h]
   by_cases e3:k=(j%32).toNat
   ·rw[if_pos e3,if_pos (by omega)]
   ·rw[if_neg e3,if_neg (by omega)]
  ·refine(c6.only ho (by simpa using e)).congr fun k hk=>?_
   rw[SpM.putW_h,if_neg]
   intro e3
   have:i=j/32:=by omega
   subst this
   rw[hG] at hi
   injection hi with hi
   exact e hi.symm
theorem Parts.put1 {w w':World} {p:Nat} {l:List Nat} {m:SpM} {gp cap gm:Nat} {G:Int->Option Nat} (h:Parts w p l m gp cap gm G) (hlt:∀b∈l,b<w.heap.size) {j v:Int} (h0:0<=j) (h1:j<32*m.n) (hst:m.st (j/32)≠2)
 (hh:∀i,m.st (i/32)≠2->m.h i=0) {g:Nat} (hg:w.heap.size<=g) (ho:Only [p,gp,gm] w w') (hb:Blk w' p 130 #[.slice (some ⟨gp,0,none⟩) m.n cap,.map (some gm),.int .i64 (max m.pk ((m.dirty:Int)+1))])
 (hr:Row w' gp (2*m.n) (pcell (m.putW j v).st)) (hD:Dict w' gm (fun i=>if i=j/32 then some g else G i) (m.dirty+1)) (hw:Row w' g 32 (fun k=>if k=(j%32).toNat then .int .i64 v else .int .i64 0)):
 Parts w' p (g::l) (m.putW j v) gp cap gm (fun i=>if i=j/32 then some g else G i):=by
 obtain⟨a1,a2,a3,a4,a5,a6,b1,b2,b3,b4,b5,b6,b7⟩:=h
 have hne:∀b∈l,b≠g:=fun b hb=>by have:=hlt b hb;omega
 have hd:(m.putW j v).dirty=m.dirty+1:=by
  have:=cntTo_set m.st 2 2 (j/32).toNat m.n (by omega)
  rw[show(((j/32).toNat:Nat):Int)=j/32 by omega] at this
  rw[if_neg hst,if_pos rfl] at this
  exact this
 have hpk:(m.putW j v).pk=max m.pk ((m.dirty:Int)+1):=by
  have e:((m.dirty:Int)+1)=((m.putW j v).dirty:Nat):=by omega
  rw[e]
  exact if_neg hst
 refine⟨.tail _ a1,.tail _ a2,.tail _ a3,a4,a5,a6,by rw[hpk];exact hb,b2,hr,by rw[hd];exact hD,fun i g' hi=>?_,fun i c1 c2 c3=>?_,fun i i' g' e1 e2=>?_⟩
 ·by_cases e:i=j/32
  ·rw[if_pos e] at hi
   injection hi with hi
   subst hi e
   refine⟨⟨by omega,by show j/32<(m.n:Int);omega,by rw[SpM.putW_st,if_pos rfl]⟩,.head _,fun e=>hne _ a1 e.symm,fun e=>hne _ a2 e.symm,fun e=>hne _ a3 e.symm,hw.congr fun k hk=>?_⟩
   rw[SpM.putW_h]
   by_cases e3:k=(j%32).toNat
   ·rw[if_pos e3,if_pos (by omega)]
   ·rw[if_neg e3,if_neg (by omega),hh _ (by rw[show(32*(j/32)+(k:Int))/32=j/32 by omega];exact hst)]
  ·rw[if_neg e] at hi
   obtain⟨c1,c2,c3,c4,c5,c6⟩:=b5 i g' hi
   refine⟨⟨c1.1,c1.2.1,by rw[SpM.putW_st,if_neg e];exact c1.2.2⟩,.tail _ c2,c3,c4,c5,(c6.only ho (by simp;exact⟨c3,c4,c5⟩)).congr fun k hk=>?_⟩
   rw[SpM.putW_h,if_neg (by omega)]
 ·by_cases e:i=j/32
  ·exact⟨g,if_pos e⟩
  ·rw[SpM.putW_st,if_neg e] at c3
   obtain⟨g',hg'⟩:=b6 i c1 c2 c3
   exact⟨g',by rw[if_neg e];exact hg'⟩
 ·by_cases e:i=j/32
  ·rw[if_pos e] at e1
   injection e1 with e1
   by_cases e':i'=j/32
   ·rw[e,e']
   ·rw[if_neg e'] at e2
    exact absurd e1.symm (hne _ (b5 _ _ e2).2.1)
  ·rw[if_neg e] at e1
   by_cases e':i'=j/32
   ·rw[if_pos e'] at e2
    injection e2 with e2
    exact absurd e2.symm (hne _ (b5 _ _ e1).2.1)
   ·rw[if_neg e'] at e2
    exact b7 _ _ _ e1 e2
theorem made_at {n k:Nat} (hk:k<n):(madeCells #[Value.int .i64 0] n)[k]? =some (.int .i64 0):=by
 unfold madeCells
 rw[Array.getElem?_map,Array.getElem?_eq_getElem (by simpa using hk)]
 simp[Nat.mod_one]
theorem info_int:(Tryz.prog.info? 3).map (fun i=>(i.zero,i.size,i.bytes))=some (some (.int .i64 0),1,8):=by kernel_rfl
set_option maxRecDepth 100000 in
set_option maxHeartbeats 4000000 in
theorem put_any {w:World} (hE:Env w) {p:Nat} {l:List Nat} {m:SpM} (h:SpaceAt w p l m) (j v:Int) (h0:0<=j) (h1:j<32*m.n) (hv:I64 v):
 Calls Tryz.prog 124 #[.pointer (some ⟨p,0,none⟩),.int .i64 j,.int .i64 v] w fun e w'=>e=.returned (.tuple #[])/\Turn w p l w' (m.putW j v):=by
 have HGD:=Lib.hid (SpM.putW_good h.good h0 h1 hv)
 obtain⟨hg,h3,h4,gp,cap,gm,G,hp⟩:=h
 have HP:=Lib.hid hp
 have HG:=Lib.hid hg
 have hn2:=hg.n2
 have t1:j.tdiv 32=j/32:=Int.tdiv_eq_ediv_of_nonneg h0
 obtain⟨i,hi⟩:∃i:Nat,j/32=i:=⟨(j/32).toNat,by omega⟩
 have hin:i<m.n:=by omega
 have hcap:=hp.cap_
 have q3:j<=32768:=by omega
 have z0:=cell_after (hp.blk.cell_ 0 rfl)
 have x0:=hp.row.cell (k:=i*2) (by omega)
 have x1:=hp.row.cell (k:=i*2+1) (by omega)
 unfold pcell at x0 x1
 rw[if_pos (by omega),show i*2/2=i by omega] at x0
 rw[if_neg (by omega),show(i*2+1)/2=i by omega] at x1
 have u0:=cell_after hE.d0
 have u1:=cell_after hE.d1
 have HE:=Lib.hid hE
 rw[hi] at t1
 by_cases hst:m.st i=2
 ·rw[show(m.st i != 0)=true by rw[hst];rfl] at x0
  rw[show(m.st i==2)=true by rw[hst];rfl] at x1
  have X0:=cell_after x0
  have X1:=cell_after x1
  have HST:=Lib.hid hst
  have H3:=Lib.hid h3
  have H4:=Lib.hid h4
  clear hp hg hE hst x0 x1 h3 h4
  go_enter Tryz.func124,Tryz.ntmps124
  go_wp2_with fail
  refine wp_region_grew (by kernel_rfl) (by kernel_rfl) ?_
  repeat (go_big_quiet_step (fail))
  refine wpQuiet_nil ?_
  rintro w1 ⟨⟨_,ho1⟩,rfl⟩
  clear z0 u0 u1 X0 X1
  have hp1:=HP.out.only ho1 (by simp)
  have z0:=hp1.blk.cell_ 0 rfl
  have z1:=hp1.blk.cell_ 1 rfl
  obtain⟨g,hG⟩:=hp1.all i (by omega) (by omega) HST.out
  obtain⟨_,g1,g2,g3,g4,g5⟩:=hp1.words _ _ hG
  rcases hp1.dict.look (k:=(i:Int)) (by unfold I64;omega) false with ⟨g',cp',hG',_,hrun⟩|⟨hG',hrun⟩
  ·rw[hG] at hG'
   injection hG' with hG'
   subst hG'
   rw[if_neg (by simp)] at hrun
   have y0:=g5.cell (k:=(j%32).toNat) (by omega)
   have fy:=g5.frozen (j%32).toNat
   have HFIN:=Lib.hid (hp1.put2 (v:=v) h0 h1 (by rw[hi];exact HST.out) (by rw[hi];exact hG))
   clear hp1 hG g5
   go_wp2_with fail
   go_end0
   have ho2:Only l w (w1.setCell ⟨g,(j%32).toNat,none⟩ (.int .i64 v)):=ho1.of_nil.setCell (.inl g1) _
   exact⟨rfl,ho2,l,⟨HGD.out,H3.out,fun b hb=>Nat.lt_of_lt_of_le (H4.out b hb) ho2.size,gp,cap,gm,G,HFIN.out⟩,fun b hb=>.inl hb⟩
  ·rw[hG] at hG';cases hG'
 ·have hxy:¬((m.st i != 0)=true/\(m.st i==2)=true):=fun h=>hst (beq_iff_eq.1 h.2)
  have hy:(m.st i==2)=false:=beq_eq_false_iff_ne.2 hst
  rw[hy] at x1
  have X0:=cell_after x0
  have X1:=cell_after x1
  have HST:=Lib.hid hst
  have H3:=Lib.hid h3
  have H4:=Lib.hid h4
  clear hp hg hE hst x0 x1 h3 h4 hxy hy
  generalize (m.st i != 0)=x at *
  cases x
  all_goals
   go_enter Tryz.func124,Tryz.ntmps124
   go_wp2_with fail
   refine wp_region_grew (by kernel_rfl) (by kernel_rfl) ?_
   repeat (go_big_quiet_step (fail))
   refine wpQuiet_nil ?_
   rintro w1 ⟨⟨_,ho1⟩,rfl⟩
   clear z0 u0 u1 X0 X1
   have hp1:=HP.out.only ho1 (by simp)
   have hE1:=HE.out.only ho1 (by simp)
   have z0:=hp1.blk.cell_ 0 rfl
   have x0:=hp1.row.cell (k:=i*2) (by omega)
   have x1:=hp1.row.cell (k:=i*2+1) (by omega)
   have f0:=hp1.row.frozen (i*2)
   have f1:=hp1.row.frozen (i*2+1)
   have u0:=hE1.d0
   have u1:=hE1.d1
   generalize pcell m.st (i*2)=Y0 at x0
   generalize pcell m.st (i*2+1)=Y1 at x1
   have HROW:=Lib.hid (hp1.row.page (st':=(m.putW j v).st) i true true (by rw[SpM.putW_st,if_pos hi.symm];rfl) (by rw[SpM.putW_st,if_pos hi.symm];rfl) (fun k hk=>by rw[SpM.putW_st,if_neg (by omega)]))
   have HP1:=Lib.hid hp1
   clear hp1 hE1
   go_wp2_with fail
   go_region
   have ho2:Only [gp] w1 ((w1.setCell ⟨gp,i*2,none⟩ (.bool true)).setCell ⟨gp,i*2+1,none⟩ (.bool true)).drew:=(((Only.refl [gp] w1).setCell (p:=⟨gp,i*2,none⟩) (.inl (by simp)) _).setCell (p:=⟨gp,i*2+1,none⟩) (.inl (by simp)) _).drew
   have hrow:Row ((w1.setCell ⟨gp,i*2,none⟩ (.bool true)).setCell ⟨gp,i*2+1,none⟩ (.bool true)).drew gp (2*m.n) (pcell (m.putW j v).st):=HROW.out
   generalize ((w1.setCell ⟨gp,i*2,none⟩ (.bool true)).setCell ⟨gp,i*2+1,none⟩ (.bool true)).drew=w2 at *
   clear z0 x0 x1 f0 f1 u0 u1 HROW
   have hb2:=HP1.out.blk.only ho2 (by simpa using HP1.out.pg)
   have z1:=hb2.cell_ 1 rfl
   have hD2:=HP1.out.dict.only ho2 (by simpa using HP1.out.gg.symm)
   have hGn:G i=none:=by
    cases hG:G i with
    |none=>rfl
    |some g=>exact absurd (HP1.out.words _ _ hG).1.2.2 HST.out
   have hmk:∀W:World,(Instr.makeSlice 37 (.int .i64 32) (.int .i64 32)).run Tryz.prog W=.ok (.slice (some ⟨W.heap.size,0,none⟩) 32 32) (W.alloc (.cells (madeCells #[.int .i64 0] 32) 3)):=fun W=>Go.run_make_row' 37 3 (.int .i64 0) 8 Tryz.underlying37 info_int rfl .i64 .i64 32 (by decide) (by decide) W
   have hoa:=((Only.refl [] w2).alloc (.cells (madeCells #[.int .i64 0] 32) 3)).drew
   have z1a:=(hoa.cell (World.block_lt_of_cell? _ _ z1) (by simp)).trans z1
   obtain⟨ob,hup,hD3⟩:=(hD2.only hoa (by simp)).put (k:=(i:Int)) (by unfold I64;omega) hGn w2.heap.size 32 (Nat.le_refl _)
   have HD3:=Lib.hid hD3
   have hw:=(Blk.new w2 3 (madeCells #[.int .i64 0] 32)).drew
   have ho3:Only [gm] (w2.alloc (.cells (madeCells #[.int .i64 0] 32) 3)).drew (setBlock (w2.alloc (.cells (madeCells #[.int .i64 0] 32) 3)).drew gm ob):=by
    obtain⟨es,clk,hbm,_⟩:=hD2.only hoa (by simp)
    exact only_setBlock (Only.refl _ _) hbm (by simp)
   clear hD3 hD2
   go_wp2_with fail
   go_region
   clear z1 z1a hup hmk
   generalize (setBlock (w2.alloc (.cells (madeCells #[.int .i64 0] 32) 3)).drew gm ob)=w3 at *
   generalize (w2.alloc (.cells (madeCells #[.int .i64 0] 32) 3)).drew=wa at *
   have hb3:=(hb2.only hoa (by simp)).only ho3 (by simpa using HP1.out.pm)
   have z1:=hb3.cell_ 1 rfl
   have z2:=hb3.cell_ 2 rfl
   have fz:=hb3.frozen 2
   have hlen:=Dict.len (w:=w3.drew) HD3.out 3
   have hmax:(if m.pk<(m.dirty:Int)+1 then(m.dirty:Int)+1 else m.pk)=max m.pk ((m.dirty:Int)+1):=by split<;>omega
   go_wp2_with fail
   go_region
   clear z1 z2 fz hlen hmax
   have ho4:Only [p] w3 (w3.setCell ⟨p,2,none⟩ (.int .i64 (max m.pk ((m.dirty:Int)+1)))).drew:=((Only.refl [p] w3).setCell (p:=⟨p,2,none⟩) (.inl (by simp)) _).drew
   have hb4:Blk (w3.setCell ⟨p,2,none⟩ (.int .i64 (max m.pk ((m.dirty:Int)+1)))).drew p 130 #[.slice (some ⟨gp,0,none⟩) m.n cap,.map (some gm),.int .i64 (max m.pk ((m.dirty:Int)+1))]:=hb3.set_ 2 _
   generalize (w3.setCell ⟨p,2,none⟩ (.int .i64 (max m.pk ((m.dirty:Int)+1)))).drew=w4 at *
   have hpg:=HP1.out.pg
   have hpm:=HP1.out.pm
   have hgg:=HP1.out.gg
   have hlp:=HP1.out.pl
   have hlg:=HP1.out.gl
   have hlm:=HP1.out.ml
   have hs1:=ho1.size
   have hs2:=ho2.size
   have hsa:=hoa.size
   have hs3:=ho3.size
   have hbp:=H4.out _ hlp
   have hbg:=H4.out _ hlg
   have hbm:=H4.out _ hlm
   have hD4:=HD3.out.only ho4 (by simpa using hpm.symm)
   have hw3:=hw.only ho3 (by simp;omega)
   have hw4:=hw3.only ho4 (by simp;omega)
   have hr4:=((hrow.only hoa (by simp)).only ho3 (by simpa using hgg)).only ho4 (by simpa using hpg.symm)
   have z1:=hb4.cell_ 1 rfl
   rcases hD4.look (k:=(i:Int)) (by unfold I64;omega) false with ⟨g',cp',hG',_,hrun⟩|⟨hG',hrun⟩
   ·rw[if_pos rfl] at hG'
    injection hG' with hG'
    subst hG'
    rw[if_neg (by simp)] at hrun
    have hlt32:(j%32).toNat<32:=by omega
    have hmc:∀k,k<32->(madeCells #[Value.int .i64 0] 32)[k]? =some (.int .i64 0):=fun k hk=>made_at hk
    have y0:=hw4.cell_ (j%32).toNat (hmc _ hlt32)
    have fy:=hw4.frozen (j%32).toNat
    go_wp2_with fail
    go_end0
    have ho5:Only [p,gp,gm] w1 (w4.setCell ⟨w2.heap.size,(j%32).toNat,none⟩ (.int .i64 v)):=((((ho2.mono (by simp)).trans hoa.of_nil).trans (ho3.mono (by simp))).trans (ho4.mono (by simp))).setCell (.inr hs2) _
    have hw5:Row (w4.setCell ⟨w2.heap.size,(j%32).toNat,none⟩ (.int .i64 v)) w2.heap.size 32 (fun k=>if k=(j%32).toNat then .int .i64 v else .int .i64 0):=by
     have hw4':Row w4 w2.heap.size 32 (fun _=>.int .i64 0):=⟨_,_,hw4,by rw[size_madeCells];exact Nat.le_refl _,hmc⟩
     exact(hw4'.set_ (j%32).toNat (.int .i64 v))
    have hog:Only [w2.heap.size] w4 (w4.setCell ⟨w2.heap.size,(j%32).toNat,none⟩ (.int .i64 v)):=(Only.refl _ w4).setCell (.inl (by simp)) _
    have hfin:=HP1.out.put1 (v:=v) (fun b hb=>Nat.lt_of_lt_of_le (H4.out b hb) hs1) h0 h1 (by rw[hi];exact HST.out) HG.out.h0 (g:=w2.heap.size) hs2 ho5 (hb4.only hog (by simp;omega)) (hr4.only hog (by simp;omega)) (by rw[hi];exact hD4.only hog (by simp;omega)) hw5
    have hol:Only l w (w4.setCell ⟨w2.heap.size,(j%32).toNat,none⟩ (.int .i64 v)):=ho1.of_nil.trans (ho5.mono (by simp;exact⟨hlp,hlg,hlm⟩))
    have hsz:=ho5.size
    have hwl:=hw4.lt
    refine⟨rfl,hol,w2.heap.size::l,⟨HGD.out,?_,?_,gp,cap,gm,_,hfin⟩,?_⟩
    ·intro b hb
     rcases List.mem_cons.1 hb with rfl|hb
     ·have:=H3.out _ hlp;omega
     ·exact H3.out b hb
    ·intro b hb
     rcases List.mem_cons.1 hb with rfl|hb
     ·exact Nat.lt_of_lt_of_le hwl hog.size
     ·exact Nat.lt_of_lt_of_le (H4.out b hb) hol.size
    ·intro b hb
     rcases List.mem_cons.1 hb with rfl|hb
     ·exact .inr (by omega)
     ·exact .inl hb
   ·rw[if_pos rfl] at hG';cases hG'
end Go.Proofs.YtcidjimefnhacaaGreatDoor.V
namespace Go.Proofs.YtcidjimefnhacaaGreatDoor.V
open Go.RowKit
open Go.ChangeMaps Go.Maps
namespace SpM
def writeM (m:SpM) (addr v:Int):SpM:=if m.acc addr 1=0 then m.putW (addr/8) v else m
def puts (m:SpM) (j:Int) (f:Nat->Int):Nat->SpM
 |0=>m
 |k+1=>(puts m j f k).putW (j+k) (f k)
def copyE (m:SpM) (to src words:Int):Int:=if m.cnt to words=0 then m.cnt src words else m.cnt to words
end SpM
set_option maxHeartbeats 1600000 in
theorem Write_any {w:World} (hE:Env w) {p:Nat} {l:List Nat} {m:SpM} (h:SpaceAt w p l m) (addr v:Int) (ha:I64 addr) (hv:I64 v):
 Calls Tryz.prog 101 #[.pointer (some ⟨p,0,none⟩),.int .i64 addr,.int .i64 v] w fun e w'=>e=.returned (.int .i64 (m.acc addr 1))/\Turn w p l w' (m.writeM addr v):=by
 have CA:=Lib.hid (access_any hE h addr 1 ha (by omega) (by omega))
 have HH:=Lib.hid h
 have HE:=Lib.hid hE
 by_cases h0:m.acc addr 1=0
 ·obtain⟨a1,a2,a3,_⟩:=SpM.acc_ok (by omega) h0
  have t1:addr.tdiv 8=addr/8:=Int.tdiv_eq_ediv_of_nonneg a1
  have E:=Lib.hid (show m.writeM addr v=m.putW (addr/8) v from if_pos h0)
  have E0:=Lib.hid h0
  rw[h0] at CA
  have hn2:=h.good.n2
  have q1:0<=addr/8:=by omega
  have q2:addr/8<=32768:=by omega
  have HI:=Lib.hid a3
  clear h hE h0 a3
  go_enter Tryz.func101,Tryz.ntmps101
  go_wp2_with (first|(go_at_call 53;refine Grew.use CA.out (fun w1 ho1=>?_)))
  refine(put_any (HE.out.only ho1 (by simp)) (HH.out.still ho1) _ v q1 (by have:=HI.out;omega) hv).mono ?_
  rintro e w2 ⟨rfl,ht⟩
  go_wp2_with fail
  go_ret
  exact⟨by rw[E0.out];rfl,by rw[E.out];exact Turn.first ho1 ht⟩
 ·have E:=Lib.hid (show m.writeM addr v=m from if_neg h0)
  have d1:(m.acc addr 1==0)=false:=beq_eq_false_iff_ne.2 h0
  have d2:(m.acc addr 1 != 0)=true:=bne_iff_ne.2 h0
  clear h hE h0
  go_enter Tryz.func101,Tryz.ntmps101
  go_wp2_with (first|(go_at_call 53;refine Grew.use CA.out (fun w1 ho1=>?_)))
  go_ret
  exact⟨rfl,by rw[E.out];exact Turn.same HH.out ho1⟩
end Go.Proofs.YtcidjimefnhacaaGreatDoor.V
namespace Go.Proofs.YtcidjimefnhacaaGreatDoor.V
open Go.RowKit
open Go.ChangeMaps Go.Maps
theorem info_page:(Tryz.prog.info? 156).map (fun i=>(i.zero,i.size,i.bytes))=some (some (.agg #[.bool false,.bool false]),2,2):=by kernel_rfl
theorem make_pages (n:Nat) (hn:n<=1024) (W:World):(Instr.makeSlice 127 (.int .i64 (n:Int)) (.int .i64 (n:Int))).run Tryz.prog W=.ok (.slice (some ⟨W.heap.size,0,none⟩) n n) (W.alloc (.cells (madeCells #[.bool false,.bool false] (n*2)) 156)):=by
 obtain⟨i,hi,hz,hs,hb⟩:=info_parts info_page
 have h:=run_make (P:=Tryz.prog) W 127 156 i _ Tryz.underlying127 hi hz .i64 .i64 n n (by omega) (by omega) (by rw[hb];omega) (by omega)
 rw[hs] at h
 exact h
theorem made_page {n k:Nat} (hk:k<n):(madeCells #[Value.bool false,Value.bool false] n)[k]? =some (.bool false):=by
 unfold madeCells
 rw[Array.getElem?_map,Array.getElem?_eq_getElem (by simpa using hk)]
 have h2:k%2=0\/k%2=1:=by omega
 rcases h2 with h2|h2<;>simp[h2]
theorem cntTo_zero (v:Int) (hv:v≠0) (k:Nat):cntTo (fun _=>0) v k=0:=by
 induction k with
 |zero=>rfl
 |succ k ih=>unfold cntTo;rw[ih,if_neg (fun e=>hv e.symm)]
theorem fresh_good {k:Nat} (h1:1<=(k:Int)) (h2:(k:Int)<=1024):(SpM.fresh k).good:=
 ⟨by show 1<=k;omega,by show k<=1024;omega,fun _=>.inl rfl,fun _ _=>rfl,fun _=>by show I64 0;unfold I64;omega,by show((cntTo (fun _=>0) 2 k:Nat):Int)<=0;rw[cntTo_zero 2 (by decide)];exact Int.le_refl _,by show(0:Int)<=1024;omega⟩
theorem fresh_at {w:World} {k:Nat} (h3:3<=w.heap.size) (h1:1<=(k:Int)) (h2:(k:Int)<=1024):
 SpaceAt (((w.alloc (.cells (madeCells #[.bool false,.bool false] (k*2)) 156)).alloc (.map #[] 0)).alloc (.cells #[.slice (some ⟨w.heap.size,0,none⟩) k k,.map (some (w.heap.size+1)),.int .i64 0] 130))
  (w.heap.size+1+1) [w.heap.size+1+1,w.heap.size,w.heap.size+1] (SpM.fresh k):=by
 have b1:=Blk.new w 156 (madeCells #[.bool false,.bool false] (k*2))
 have hd:=Dict.made (w.alloc (.cells (madeCells #[.bool false,.bool false] (k*2)) 156))
 have b3:=Blk.new ((w.alloc (.cells (madeCells #[.bool false,.bool false] (k*2)) 156)).alloc (.map #[] 0)) 130 #[.slice (some ⟨w.heap.size,0,none⟩) k k,.map (some (w.heap.size+1)),.int .i64 0]
 simp only[World.size_alloc] at hd b3
 have hd2:=hd.only ((Only.refl [] _).alloc (.cells #[.slice (some ⟨w.heap.size,0,none⟩) k k,.map (some (w.heap.size+1)),.int .i64 0] 130)) (by simp)
 have hr:Row _ w.heap.size (2*k) (pcell (fun _=>0)):=⟨_,_,(b1.alloc (.map #[] 0)).alloc (.cells #[.slice (some ⟨w.heap.size,0,none⟩) k k,.map (some (w.heap.size+1)),.int .i64 0] 130),by rw[size_madeCells];omega,fun j hj=>by
  rw[made_page (by omega)]
  unfold pcell
  split<;>rfl⟩
 refine⟨fresh_good h1 h2,fun b hb=>?_,fun b hb=>?_,w.heap.size,k,w.heap.size+1,fun _=>none,.head _,.tail _ (.head _),.tail _ (.tail _ (.head _)),by omega,by omega,by omega,b3,Nat.le_refl _,hr,?_,fun i g h=>(by cases h),fun i _ _ h=>?_,fun i j g h=>(by cases h)⟩
 ·simp at hb;omega
 ·simp at hb;simp;omega
 ·have e:(SpM.fresh k).dirty=0:=cntTo_zero 2 (by decide) k
  rw[e]
  exact hd2
 ·exact absurd (show(0:Int)=2 from h) (by decide)
set_option maxHeartbeats 1600000 in
theorem New_any {w:World} (hE:Env w) (n:Int):
 Calls Tryz.prog 48 #[.int .i64 n] w fun e w'=>Only [] w w'/\
  (1<=n/\n<=1024->∃p l,e=.returned (.tuple #[.pointer (some ⟨p,0,none⟩),.int .i64 0])/\SpaceAt w' p l (SpM.fresh n.toNat)/\∀b∈l,w.heap.size<=b)/\
  (¬(1<=n/\n<=1024)->e=.returned (.tuple #[.pointer none,.int .i64 1])):=by
 have h3:3<=w.heap.size:=by have:(2:Nat)<w.heap.size:=World.block_lt_of_cell? w _ hE.c0;omega
 by_cases hin:1<=n/\n<=1024
 ·obtain⟨k,rfl⟩:∃k:Nat,n=k:=⟨n.toNat,by omega⟩
  have d1:decide ((k:Int)<1)=false:=decide_eq_false (by omega)
  have d2:decide (1024<(k:Int))=false:=decide_eq_false (by omega)
  have hmk:=make_pages k (by omega)
  have hmm:= @run_makeMap Tryz.prog
  go_enter Tryz.func48,Tryz.ntmps48
  go_wp2_with fail
  go_ret2
  have hsp:=fresh_at (k:=k) h3 hin.1 hin.2
  refine⟨(((Only.refl [] w).alloc _).alloc _).alloc _,fun _=>⟨w.heap.size+1+1,[w.heap.size+1+1,w.heap.size,w.heap.size+1],rfl,?_,fun b hb=>?_⟩,fun h=>absurd hin h⟩
  ·rw[Int.toNat_natCast];exact hsp
  ·simp at hb;omega
 ·have HIN:=Lib.hid hin
  by_cases h1:n<1
  ·have d1:=decide_eq_true h1
   clear hin
   go_enter Tryz.func48,Tryz.ntmps48
   go_wp2_with fail
   go_ret2
   exact⟨Only.refl _ _,fun h=>absurd h (by have:=HIN.out;omega),fun _=>rfl⟩
  ·have d1:=decide_eq_false h1
   have d2:decide (1024<n)=true:=decide_eq_true (by omega)
   clear hin
   go_enter Tryz.func48,Tryz.ntmps48
   go_wp2_with fail
   go_ret2
   exact⟨Only.refl _ _,fun h=>absurd h (by have:=HIN.out;omega),fun _=>rfl⟩
theorem Pages_any {w:World} {p:Nat} {l:List Nat} {m:SpM} (h:SpaceAt w p l m):Still Tryz.prog 61 #[.pointer (some ⟨p,0,none⟩)] w (.int .i64 m.n):=by
 have CM:=Lib.hid (made_any h)
 obtain⟨hg,h3,h4,gp,cap,gm,G,hp⟩:=h
 have z0:=hp.blk.cell_ 0 rfl
 clear hp hg
 generalize m.n=n at *
 go_enter Tryz.func61,Tryz.ntmps61
 go_wp2_with (first|(go_at_call 67;refine Still.use CM.out ?_))
 go_ret
 exact⟨rfl,rfl⟩
def mapTo (st:Int->Int):Nat->Nat
 |0=>0
 |k+1=>mapTo st k+if st k=0 then 0 else 1
end Go.Proofs.YtcidjimefnhacaaGreatDoor.V
namespace Go.Proofs.YtcidjimefnhacaaGreatDoor
open Go.RowKit Go.ChangeShapes Go.WideShapes Go.Deep Go.Joins
theorem knob_own:ownKnob Tryz.prog.godebug=none:=by kernel_rfl
theorem row_laidOut:laidOutB Tryz.prog=true:=by kernel_rfl
theorem add_next {w:World} {a:Addr} {v:Value} (h:w.cell? a=some v) (i j:Nat):a.add (i+(j+1))=⟨(a.add i).block,(a.add i).off+(j+1),none⟩:=by
 obtain⟨b,o,sp⟩:=a
 have hs:sp=none:=by simpa using World.cell?_spot h
 subst hs
 unfold Addr.add
 rw[if_neg (by omega)]
 split
 ·rename_i h0;subst h0;simp
 ·simp;omega
def intFields (P:Program) (fs:Array Field):Bool:=fs.toList.all fun f=>match P.underlying f.type with|some (.int .i64)=>true|_=>false
theorem intFields.at_ {P:Program} {fs:Array Field} (h:intFields P fs=true) (j:Nat) (f:Field) (hj:fs[j]? =some f):P.underlying f.type=some (.int .i64):=by
 unfold intFields at h
 rw[List.all_eq_true] at h
 have hm:f∈fs.toList:=by rw[<-Array.getElem?_toList] at hj;exact List.mem_of_getElem? hj
 have:=h f hm
 split at this
 ·assumption
 ·cases this
section
variable {H:Type} {enc:TypeId×Value->H} {P:Program} {w:World} {base:Nat} {spare:Nat->Bool} {held:Bool}
end
end Go.Proofs.YtcidjimefnhacaaGreatDoor
namespace Go.Proofs.YtcidjimefnhacaaGreatDoor
structure Sp where
 start:Int
 size:Int
 pages:Int
 batch:Int
 many:Int
 st:List Int
structure Sp.Good (s:Sp):Prop where
 s1:8<=s.size
 s2:s.size<=512
 p1:1<=s.pages
 p2:s.pages<=4
 b1:0<=s.start
 b2:s.start<=1024-s.pages
 n1:1<=s.st.length
 n2:(s.st.length:Int)*s.size<=s.pages*256
 n3:s.pages*256<((s.st.length:Int)+1)*s.size
 bits:∀i,i<s.st.length->s.st.getD i 0=0\/s.st.getD i 0=1
 cnt:s.many=s.st.sum
theorem Sp.Good.len {s:Sp} (h:s.Good):s.st.length<=128:=by
 have h2:=h.n2
 have h3:=h.p2
 have h4:=h.s1
 have h5:(s.st.length:Int)*8<=(s.st.length:Int)*s.size:=Int.mul_le_mul_of_nonneg_left h4 (by omega)
 omega
theorem Sp.Good.off {s:Sp} (h:s.Good) {i:Int} (h0:0<=i) (h1:i<=s.st.length):0<=i*s.size/\i*s.size<=s.pages*256:=by
 have h2:=h.n2
 have h4:=h.s1
 have h5:i*s.size<=(s.st.length:Int)*s.size:=Int.mul_le_mul_of_nonneg_right h1 (by omega)
 have h6:0*s.size<=i*s.size:=Int.mul_le_mul_of_nonneg_right h0 (by omega)
 omega
def Sp.at_ (s:Sp) (i:Int):Int:=s.start*256+i*s.size
def Sp.idx (s:Sp) (a:Int):Int×Int:=
 if a<s.start*256 then(0,8) else if(s.st.length:Int)*s.size<=a-s.start*256 then(0,8) else((a-s.start*256)/s.size,0)
def Sp.obj (s:Sp) (a:Int):Int×Int:=if(s.idx a).2=0 then(if s.at_ (s.idx a).1=a then s.idx a else(0,8)) else s.idx a
def idxOf (l:List Int) (v:Int):Int:=match l.findIdx? (· ==v) with|some k=>k|none=> -1
theorem idxOf_at {l:List Int} {v:Int} {k:Nat} (hk:k<l.length) (hv:l.getD k 0=v) (hn:∀j,j<k->l.getD j 0≠v):idxOf l v=k:=by
 have:l.findIdx? (· ==v)=some k:=by
  rw[List.findIdx?_eq_some_iff_getElem]
  refine⟨hk,?_,fun j hj=>?_⟩
  ·simpa[List.getD_eq_getElem?_getD,List.getElem?_eq_getElem hk] using hv
  ·have:=hn j hj
   simpa[List.getD_eq_getElem?_getD,List.getElem?_eq_getElem (show j<l.length by omega)] using this
 unfold idxOf
 rw[this]
theorem idxOf_none {l:List Int} {v:Int} (hn:∀j,j<l.length->l.getD j 0≠v):idxOf l v= -1:=by
 have:l.findIdx? (· ==v)=none:=by
  rw[List.findIdx?_eq_none_iff]
  intro x hx
  obtain⟨j,hj,rfl⟩:=List.getElem_of_mem hx
  have:=hn j hj
  simpa[List.getD_eq_getElem?_getD,List.getElem?_eq_getElem hj] using this
 unfold idxOf
 rw[this]
def Sp.put (s:Sp) (i:Nat) (v:Int):Sp:={s with many:=s.many+(v-s.st.getD i 0),st:=s.st.set i v}
theorem sum_set (l:List Int) (i:Nat) (v:Int) (hi:i<l.length):(l.set i v).sum=l.sum+(v-l.getD i 0):=by
 induction l generalizing i with
 |nil=>simp at hi
 |cons x l ih=>
  cases i with
  |zero=>simp;omega
  |succ i=>
   have:=ih i (by simpa using hi)
   simp only[List.set_cons_succ,List.sum_cons,List.getD_cons_succ,this]
   omega
theorem Sp.Good.put {s:Sp} (h:s.Good) {i:Nat} (hi:i<s.st.length) {v:Int} (hv:v=0\/v=1):(s.put i v).Good where
 s1:=h.s1
 s2:=h.s2
 p1:=h.p1
 p2:=h.p2
 b1:=h.b1
 b2:=h.b2
 n1:=by simpa[Sp.put] using h.n1
 n2:=by simpa[Sp.put] using h.n2
 n3:=by simpa[Sp.put] using h.n3
 bits:=by
  intro j hj
  have hj':j<s.st.length:=by simpa[Sp.put] using hj
  have:=h.bits j hj'
  simp only[Sp.put,List.getD_eq_getElem?_getD,List.getElem?_set] at this ⊢
  split
  ·simp[hv]
  ·exact this
 cnt:=by
  simp only[Sp.put]
  rw[sum_set _ _ _ hi,h.cnt]
theorem sum_range (l:List Int) (h:∀i,i<l.length->l.getD i 0=0\/l.getD i 0=1):0<=l.sum/\l.sum<=l.length:=by
 induction l with
 |nil=>simp
 |cons x l ih=>
  have h0:=h 0 (by simp)
  have:=ih (fun i hi=>by simpa using h (i+1) (by simpa using hi))
  simp at h0 ⊢
  omega
theorem Sp.Good.many {s:Sp} (h:s.Good):0<=s.many/\s.many<=s.st.length:=by rw[h.cnt];exact sum_range _ h.bits
def Sp.take (s:Sp):(Int×Int)×Sp:=if idxOf s.st 0<0 then((0,6),s) else((s.at_ (idxOf s.st 0),0),s.put (idxOf s.st 0).toNat 1)
def Sp.free (s:Sp) (a:Int):Int×Sp:=
 if(s.obj a).2≠0 then((s.obj a).2,s) else if s.st.getD (s.obj a).1.toNat 0=0 then(9,s) else(0,s.put (s.obj a).1.toNat 0)
theorem idxOf_cases (l:List Int) (v:Int):(idxOf l v= -1/\∀j,j<l.length->l.getD j 0≠v)\/∃k:Nat,idxOf l v=k/\k<l.length/\l.getD k 0=v/\∀j,j<k->l.getD j 0≠v:=by
 cases hf:l.findIdx? (· ==v) with
 |none=>
  refine .inl ⟨by simp[idxOf,hf],fun j hj=>?_⟩
  rw[List.findIdx?_eq_none_iff] at hf
  have:=hf l[j] (List.getElem_mem hj)
  simpa[List.getD_eq_getElem?_getD,List.getElem?_eq_getElem hj] using this
 |some k=>
  rw[List.findIdx?_eq_some_iff_getElem] at hf
  obtain⟨hk,h1,h2⟩:=hf
  have hv:l.getD k 0=v:=by simpa[List.getD_eq_getElem?_getD,List.getElem?_eq_getElem hk] using h1
  have hn:∀j,j<k->l.getD j 0≠v:=fun j hj=>by
   have:=h2 j hj
   simpa[List.getD_eq_getElem?_getD,List.getElem?_eq_getElem (show j<l.length by omega)] using this
  exact .inr ⟨k,idxOf_at hk hv hn,hk,hv,hn⟩
end Go.Proofs.YtcidjimefnhacaaGreatDoor
namespace Go.Proofs.YtcidjimefnhacaaGreatDoor
open Go.RowKit
structure SpanAt (w:World) (p q cap:Nat) (s:Sp):Prop where
 head:Blk w p 275 #[.int .i64 s.start,.int .i64 s.size,.int .i64 s.pages,.int .i64 s.batch,.slice (some ⟨q,0,none⟩) s.st.length cap,.int .i64 s.many]
 row:∃cs:Array Value,Blk w q 3 cs/\∀i,i<s.st.length->cs[i]? =some (.int .i64 (s.st.getD i 0))
 good:s.Good
namespace SpanAt
variable {w w':World} {p q cap:Nat} {s:Sp}
theorem c0 (h:SpanAt w p q cap s):w.cell? ⟨p,0,none⟩=some (.int .i64 s.start):=h.head.cell_ 0 rfl
theorem c1 (h:SpanAt w p q cap s):w.cell? ⟨p,1,none⟩=some (.int .i64 s.size):=h.head.cell_ 1 rfl
theorem c2 (h:SpanAt w p q cap s):w.cell? ⟨p,2,none⟩=some (.int .i64 s.pages):=h.head.cell_ 2 rfl
theorem c3 (h:SpanAt w p q cap s):w.cell? ⟨p,3,none⟩=some (.int .i64 s.batch):=h.head.cell_ 3 rfl
theorem c4 (h:SpanAt w p q cap s):w.cell? ⟨p,4,none⟩=some (.slice (some ⟨q,0,none⟩) s.st.length cap):=h.head.cell_ 4 rfl
theorem c5 (h:SpanAt w p q cap s):w.cell? ⟨p,5,none⟩=some (.int .i64 s.many):=h.head.cell_ 5 rfl
theorem at_ (h:SpanAt w p q cap s) (i:Nat) (hi:i<s.st.length):w.cell? ⟨q,i,none⟩=some (.int .i64 (s.st.getD i 0)):=by
 obtain⟨cs,hb,hc⟩:=h.row
 exact hb.cell_ i (hc i hi)
theorem ne (h:SpanAt w p q cap s):p≠q:=by
 obtain⟨cs,hb,hc⟩:=h.row
 exact h.head.ne_ hb (by decide)
theorem only {l:List Nat} (h:SpanAt w p q cap s) (ho:Only l w w') (hp:p∉l) (hq:q∉l):SpanAt w' p q cap s:=by
 obtain⟨cs,hb,hc⟩:=h.row
 exact⟨h.head.only ho hp,⟨cs,hb.only ho hq,hc⟩,h.good⟩
theorem drewN (h:SpanAt w p q cap s) (n:Nat):SpanAt (w.drewN n) p q cap s:=⟨h.head,h.row,h.good⟩
theorem drew (h:SpanAt w p q cap s):SpanAt w.drew p q cap s:=⟨h.head,h.row,h.good⟩
theorem alloc (h:SpanAt w p q cap s) (o:Obj):SpanAt (w.alloc o) p q cap s:=h.only ((Only.refl [] w).alloc o) (by simp) (by simp)
theorem ltp (h:SpanAt w p q cap s):p<w.heap.size:=h.head.lt
theorem ltq (h:SpanAt w p q cap s):q<w.heap.size:=by obtain⟨cs,hb,_⟩:=h.row;exact hb.lt
end SpanAt
def Unmade (w:World) (v:Value):Prop:=v=.pointer none\/∃p,v=.pointer (some ⟨p,0,none⟩)/\Blk w p 275 #[.int .i64 0,.int .i64 0,.int .i64 0,.int .i64 0,.slice none 0 0,.int .i64 0]
set_option maxHeartbeats 400000 in
theorem made_at {w p q cap s} (h:SpanAt w p q cap s):Still Tryz.prog 179 #[.pointer (some ⟨p,0,none⟩)] w (.bool true):=by
 have h4:=h.c4
 have hn:=h.good.n1
 have hn':0<s.st.length:=hn
 clear h
 go_enter Tryz.func179,Tryz.ntmps179
 go_wp2
 go_ret
 exact⟨by simp,rfl⟩
set_option maxHeartbeats 400000 in
theorem addr_at {w p q cap s} (h:SpanAt w p q cap s) (i:Int) (hi0:0<=i) (hi1:i<=s.st.length):Quiet Tryz.prog 182 #[.pointer (some ⟨p,0,none⟩),.int .i64 i] w (.int .i64 (s.start*256+i*s.size)):=by
 have h0:=h.c0
 have h1:=h.c1
 have hb1:=h.good.b1
 have hb2:=h.good.b2
 have hp1:=h.good.p1
 have hp2:=h.good.p2
 obtain⟨ho1,ho2⟩:=h.good.off hi0 hi1
 clear h
 go_enter Tryz.func182,Tryz.ntmps182
 go_wp2
 go_quiet (fail)
 go_wp2
 go_ret
 exact⟨rfl,(by repeat (first|exact Dr.refl _|refine Dr.drewN ?_ _|refine Dr.drew ?_))⟩
theorem addr_0 {w p q cap s} (h:SpanAt w p q cap s):Quiet Tryz.prog 182 #[.pointer (some ⟨p,0,none⟩),.int .i64 0] w (.int .i64 (s.start*256)):=by
 have:=addr_at h 0 (by omega) (by omega)
 rwa[show s.start*256+0*s.size=s.start*256 by omega] at this
theorem Sp.idx_lt {s:Sp} {a:Int} (h:a<s.start*256):s.idx a=(0,8):=by unfold Sp.idx;rw[if_pos h]
theorem Sp.idx_ge {s:Sp} {a:Int} (h:¬a<s.start*256) (h':(s.st.length:Int)*s.size<=a-s.start*256):s.idx a=(0,8):=by unfold Sp.idx;rw[if_neg h,if_pos h']
theorem Sp.idx_in {s:Sp} {a:Int} (h:¬a<s.start*256) (h':¬(s.st.length:Int)*s.size<=a-s.start*256):s.idx a=((a-s.start*256)/s.size,0):=by unfold Sp.idx;rw[if_neg h,if_neg h']
set_option maxHeartbeats 800000 in
theorem Index_at {w p q cap s} (h:SpanAt w p q cap s) (a:Int) (ha0: -9223372036854775808<=a) (ha1:a<=9223372036854775807):Quiet Tryz.prog 168 #[.pointer (some ⟨p,0,none⟩),.int .i64 a] w (.tuple #[.int .i64 (s.idx a).1,.int .i64 (s.idx a).2]):=by
 have h0:=h.c0
 have h1:=h.c1
 have h4:=h.c4
 have hs1:=h.good.s1
 have hb1:=h.good.b1
 have hb2:=h.good.b2
 have hp1:=h.good.p1
 have hp2:=h.good.p2
 have hn2:=h.good.n2
 have hl:=h.good.len
 obtain⟨ho1,ho2⟩:=h.good.off (i:=s.st.length) (by omega) (by omega)
 have hs0:(s.size==0)=false:=beq_eq_false_iff_ne.2 (by omega)
 by_cases hlt:a<s.start*256
 ·have d1:decide (a<s.start*256)=true:=decide_eq_true hlt
  have HE:=Lib.hid (Sp.idx_lt hlt)
  go_enter Tryz.func168,Tryz.ntmps168
  go_wp2_with fail
  refine Still.use (made_at h) ?_
  go_wp2_with fail
  refine Quiet.use (addr_0 h) (fun n=>?_)
  go_wp2_with fail
  go_quiet ((go_at_call 182;exact(addr_0 (h.drewN _)).qa))
  go_wp2_with fail
  go_ret2
  exact⟨by rw[HE.out];rfl,(by repeat (first|exact Dr.refl _|refine Dr.drewN ?_ _|refine Dr.drew ?_))⟩
 ·have d1:decide (a<s.start*256)=false:=decide_eq_false hlt
  by_cases hge:(s.st.length:Int)*s.size<=a-s.start*256
  all_goals
   first|(have d2:decide ((s.st.length:Int)*s.size<=a-s.start*256)=true:=decide_eq_true hge;have HE:=Lib.hid (Sp.idx_ge hlt hge))|(have d2:decide ((s.st.length:Int)*s.size<=a-s.start*256)=false:=decide_eq_false hge;have HE:=Lib.hid (Sp.idx_in hlt hge))
   go_enter Tryz.func168,Tryz.ntmps168
   go_wp2_with fail
   refine Still.use (made_at h) ?_
   go_wp2_with fail
   refine Quiet.use (addr_0 h) (fun n=>?_)
   go_wp2_with fail
   go_quiet ((go_at_call 182;exact(addr_0 (h.drewN _)).qa))
   go_wp2_with fail
   go_ret2
   exact⟨by rw[HE.out];rfl,(by repeat (first|exact Dr.refl _|refine Dr.drewN ?_ _|refine Dr.drew ?_))⟩
theorem Sp.idx_range {s:Sp} (hg:s.Good) (a:Int):0<=(s.idx a).1/\(s.idx a).1<s.st.length/\((s.idx a).2=0\/(s.idx a).2=8):=by
 have h1:=hg.s1
 have h2:=hg.n1
 by_cases hlt:a<s.start*256
 ·rw[Sp.idx_lt hlt];simp;omega
 ·by_cases hge:(s.st.length:Int)*s.size<=a-s.start*256
  ·rw[Sp.idx_ge hlt hge];simp;omega
  ·rw[Sp.idx_in hlt hge]
   refine⟨Int.ediv_nonneg (by omega) (by omega),?_,.inl rfl⟩
   exact Int.ediv_lt_of_lt_mul (by omega) (by omega)
theorem Sp.obj_yes {s:Sp} {a:Int} (h:(s.idx a).2=0) (h':s.start*256+(s.idx a).1 *s.size=a):s.obj a=s.idx a:=by unfold Sp.obj Sp.at_;rw[if_pos h,if_pos h']
theorem Sp.obj_no {s:Sp} {a:Int} (h:(s.idx a).2=0) (h':¬s.start*256+(s.idx a).1 *s.size=a):s.obj a=(0,8):=by unfold Sp.obj Sp.at_;rw[if_pos h,if_neg h']
theorem Sp.obj_out {s:Sp} {a:Int} (h:¬(s.idx a).2=0):s.obj a=s.idx a:=by unfold Sp.obj;rw[if_neg h]
theorem Sp.obj_range {s:Sp} (hg:s.Good) (a:Int):0<=(s.obj a).1/\(s.obj a).1<s.st.length/\((s.obj a).2=0\/(s.obj a).2=8):=by
 have:=s.idx_range hg a
 have:=hg.n1
 unfold Sp.obj
 split
 ·split
  ·assumption
  ·simp;omega
 ·assumption
end Go.Proofs.YtcidjimefnhacaaGreatDoor
