/- TopSchedules, a part of the proof: Hu, Pm. -/
import Derived.Test.YtcidjimefnhacaaGreatDoorM14
import Derived.Test.YtcidjimefnhacaaGreatDoorM13
import Derived.Test.YtcidjimefnhacaaGreatDoorM06
set_option linter.unusedVariables false
set_option linter.unusedSimpArgs false
namespace Go.Proofs.YtcidjimefnhacaaGreatDoor
open Go.RowKit
open V (Row)
structure HuSt (n:Nat) (p:Nat) (L:Nat->Int) (w:World) (fp:List Nat):Prop where
 n1:16<=n/\n<=1024/\n%16=0
 ex:∃g cp,Blk w p 176 #[.slice (some ⟨g,0,none⟩) n cp]/\n<=cp/\Row w g n (fun k=>.int .i64 (L k))/\p≠g/\fp=[p,g]
 l3:∀k,0<=L k/\L k<=3
theorem HuSt.framed (n p:Nat) (L:Nat->Int):Framed (HuSt n p L):=by
 constructor
 ·rintro w w' fp l ⟨h1,⟨g,cp,a1,a2,a3,a4,rfl⟩,h3⟩ ho hb
  exact⟨h1,⟨g,cp,a1.only ho (hb _ (by simp)),a2,a3.only ho (hb _ (by simp)),a4,rfl⟩,h3⟩
 ·rintro w fp ⟨h1,⟨g,cp,a1,a2,a3,a4,rfl⟩,h3⟩ b hb
  simp only[List.mem_cons,List.mem_singleton] at hb
  rcases hb with rfl|rfl|h
  ·exact a1.lt
  ·exact a3.lt
  ·cases h
theorem hmade_at {n p:Nat} {L:Nat->Int} {w:World} {fp:List Nat} (h:HuSt n p L w fp):Still Tryz.prog 178 #[.pointer (some ⟨p,0,none⟩)] w (.bool true):=by
 obtain⟨h1,⟨g,cp,a1,a2,a3,a4,rfl⟩,h3⟩:=h
 have z0:=a1.cell_ 0 rfl
 have d1:decide ((0:Int)<(n:Int))=true:=decide_eq_true (by omega)
 have d1':decide (0<n)=true:=decide_eq_true (by omega)
 clear a1 a3 h3
 go_enter Tryz.func178,Tryz.ntmps178
 go_wp2_with fail
 go_ret
 exact⟨rfl,rfl⟩
theorem HNew_any (w:World) (n:Nat) (hn:16<=n/\n<=1024/\n%16=0):Calls Tryz.prog 64 #[.int .i64 n] w fun e w'=>
 e=.returned (.tuple #[.pointer (some ⟨w.heap.size+1,0,none⟩),.int .i64 0])/\Only [] w w'/\HuSt n (w.heap.size+1) (fun _=>0) w' [w.heap.size+1,w.heap.size]:=by
 have d1:decide ((n:Int)<16)=false:=decide_eq_false (by omega)
 have d2:decide (1024<(n:Int))=false:=decide_eq_false (by omega)
 have t1:(n:Int).tmod 16=0:=by rw[Int.tmod_eq_emod_of_nonneg (by omega)];omega
 obtain⟨i0,hi0,hz0,hz1,hz2⟩:=info_parts info_int
 have hmk:=fun W=>run_make (P:=Tryz.prog) W 37 3 i0 (.int .i64 0) Tryz.underlying37 hi0 hz0 .i64 .i64 n n (by omega) (by omega) (by rw[hz2];omega) (by omega)
 simp only[Int.toNat_natCast,hz1,Nat.mul_one] at hmk
 have HN:=Lib.hid hn
 clear hn
 go_enter Tryz.func64,Tryz.ntmps64
 go_wp2_with fail
 go_ret2
 refine⟨rfl,((Only.refl [] w).alloc _).alloc _,HN.out,⟨w.heap.size,n,?_,Nat.le_refl _,?_,by omega,rfl⟩,fun k=>by simp⟩
 ·simpa using Blk.new (w.alloc (.cells (madeCells #[.int .i64 0] n) 3)) 176 #[.slice (some ⟨w.heap.size,0,none⟩) n n]
 ·exact⟨3,madeCells #[.int .i64 0] n,(Blk.new w _ _).alloc _,by simp[size_madeCells],fun k hk=>V.made_at hk⟩
theorem HState_at {n p:Nat} {L:Nat->Int} {w:World} {fp:List Nat} (h:HuSt n p L w fp) (page:Int):Still Tryz.prog 151 #[.pointer (some ⟨p,0,none⟩),.int .i64 page] w (.int .i64 (if 0<=page/\page<n then L page.toNat else -1)):=by
 have CM:=Lib.hid (hmade_at h)
 obtain⟨h1,⟨g,cp,a1,a2,a3,a4,rfl⟩,h3⟩:=h
 have z0:=a1.cell_ 0 rfl
 by_cases hp0:page<0
 ·have d1:decide (page<0)=true:=decide_eq_true hp0
  rw[if_neg (by omega)]
  clear a1 a3 h3 hp0
  go_enter Tryz.func151,Tryz.ntmps151
  go_wp2_with (first|(go_at_call 178;with_reducible refine Still.use CM.out ?_))
  go_ret
  exact⟨rfl,rfl⟩
 ·have d1:decide (page<0)=false:=decide_eq_false hp0
  obtain⟨k,rfl⟩:∃k:Nat,page=k:=⟨page.toNat,by omega⟩
  by_cases hkn:k<n
  ·have d2:decide ((n:Int)<=k)=false:=decide_eq_false (by omega)
   rw[if_pos (by omega),Int.toNat_natCast]
   have y0:=a3.cell hkn
   have hk2:(k:Int)<n:=by omega
   clear a1 a3 h3 hp0
   go_enter Tryz.func151,Tryz.ntmps151
   go_wp2_with (first|(go_at_call 178;with_reducible refine Still.use CM.out ?_))
   go_ret
   exact⟨rfl,rfl⟩
  ·have d2:decide ((n:Int)<=k)=true:=decide_eq_true (by omega)
   rw[if_neg (by omega)]
   clear a1 a3 h3 hp0
   go_enter Tryz.func151,Tryz.ntmps151
   go_wp2_with (first|(go_at_call 178;with_reducible refine Still.use CM.out ?_))
   go_ret
   exact⟨rfl,rfl⟩
theorem hfill_any (w:World) (g n o m cp:Nat) (v:Int) (f:Nat->Int) (h:Row w g n (fun k=>.int .i64 (f k))) (ho:o+m<=n) (hn:n<=1024):Calls Tryz.prog 191 #[.slice (some ⟨g,o,none⟩) m cp,.int .i64 v] w fun e w'=>
 e=.returned (.tuple #[])/\Only [g] w w'/\Row w' g n (fun k=>.int .i64 (if o<=k/\k<o+m then v else f k)):=by
 have H:=Lib.hid h
 clear h
 go_enter Tryz.func191,Tryz.ntmps191
 go_wp2_with fail
 go_loopw[7] (fun t wr=>∃k:Nat,k<=m/\t=.int .i64 k/\Only [g] w wr/\Row wr g n (fun j=>.int .i64 (if o<=j/\j<o+k then v else f j))) (fun t _=>m-(intOf t).toNat)
 case atStart=>exact⟨0,Nat.zero_le _,rfl,Only.refl _ _,H.out.congr (fun j hj=>by rw[if_neg (by omega)])⟩
 case round=>
  obtain⟨k,hk,rfl,hoW,hr⟩:=hrel
  by_cases hlt:k<m
  ·have d1:decide ((k:Int)<m)=true:=decide_eq_true (by omega)
   have c0:=hr.cell (show o+k<n by omega)
   have f0:=hr.frozen (o+k)
   have hkm:(k:Int)<m:=by omega
   have HR:=Lib.hid hr
   clear hr
   go_wp2_with fail
   go_roundw
   case rel=>
    refine⟨k+1,by omega,by go_num,hoW.setCell (.inl (by simp)) _,(HR.out.set_ (o+k) (.int .i64 v)).congr (fun j hj=>?_)⟩
    by_cases e:j=o+k
    ·rw[if_pos e,if_pos (by omega)]
    ·rw[if_neg e]
     by_cases e2:o<=j/\j<o+k
     ·rw[if_pos e2,if_pos (by omega)]
     ·rw[if_neg e2,if_neg (by omega)]
   case measure=>simp[intOf];omega
  ·have e:k=m:=by omega
   subst e
   have d1:decide ((k:Int)<k)=false:=decide_eq_false (by omega)
   go_wp2_with fail
   go_end0
   exact⟨rfl,hoW,hr⟩
theorem HuSt.of {n p:Nat} {L':Nat->Int} {w w':World} {g cp:Nat} (h1:16<=n/\n<=1024/\n%16=0) (a1:Blk w p 176 #[.slice (some ⟨g,0,none⟩) n cp]) (a2:n<=cp) (a4:p≠g) (ho:Only [g] w w') (hr:Row w' g n (fun k=>.int .i64 (L' k))) (h3:∀k,0<=L' k/\L' k<=3):
 HuSt n p L' w' [p,g]/\Only [p,g] w w':=⟨⟨h1,⟨g,cp,a1.only ho (by simpa using a4),a2,hr,a4,rfl⟩,h3⟩,ho.mono (by simp)⟩
theorem hall_at {n p g cp:Nat} {w:World} (a1:Blk w p 176 #[.slice (some ⟨g,0,none⟩) n cp]) (hn:n<=1024):Still Tryz.prog 212 #[.pointer (some ⟨p,0,none⟩)] w (.int .i64 ((n:Int)/16)):=by
 have z0:=a1.cell_ 0 rfl
 have t1:(n:Int).tdiv 16=n/16:=Int.tdiv_eq_ediv_of_nonneg (by omega)
 have w4:IntKind.i64.wrap ((n:Int)/16)=n/16:=IntWalk.i64_in _ (by omega)
 clear a1
 go_enter Tryz.func212,Tryz.ntmps212
 go_wp2_with fail
 go_ret
 exact⟨rfl,rfl⟩
theorem hof_at {n p g cp:Nat} {w:World} (a1:Blk w p 176 #[.slice (some ⟨g,0,none⟩) n cp]) (k:Nat) (hk:16*k+16<=n) (hn:n<=cp) (h1:n<=1024):Still Tryz.prog 213 #[.pointer (some ⟨p,0,none⟩),.int .i64 k] w (.slice (some ⟨g,16*k,none⟩) 16 (cp-16*k)):=by
 have z0:=a1.cell_ 0 rfl
 have w1:IntKind.i64.wrap ((k:Int)*16)=((16*k:Nat):Int):=by rw[IntWalk.i64_in _ (by omega)];omega
 have w2:IntKind.i64.wrap ((k:Int)+1)=k+1:=IntWalk.i64_in _ (by omega)
 have w3:IntKind.i64.wrap (((k:Int)+1)*16)=((16*k+16:Nat):Int):=by rw[IntWalk.i64_in _ (by omega)];omega
 obtain⟨a,ha⟩:∃a,a=16*k:=⟨_,rfl⟩
 obtain⟨b,hb⟩:∃b,b=16*k+16:=⟨_,rfl⟩
 rw[<-ha] at w1
 rw[<-hb] at w3
 have HA:=Lib.hid ha
 have HB:=Lib.hid (show b-a=16 by omega)
 have l0:(0:Int)<=(a:Int):=by omega
 have l2:(a:Int)<=b:=by omega
 have l3:(b:Int)<=cp:=by omega
 have hcp:¬(cp=a):=by omega
 clear a1 ha hb
 rw[<-HA.out]
 go_enter Tryz.func213,Tryz.ntmps213
 go_wp2_with fail
 go_ret
 refine⟨?_,rfl⟩
 simp[go_sem,HB.out]
theorem hhuge_at {n p:Nat} {L:Nat->Int} {w:World} {fp:List Nat} (h:HuSt n p L w fp) (k:Nat) (hk:16*k+16<=n):∃g cp,16*k+16<=cp/\fp=[p,g]/\Still Tryz.prog 190 #[.pointer (some ⟨p,0,none⟩),.int .i64 k] w (.tuple #[.slice (some ⟨g,16*k,none⟩) 16 (cp-16*k),.int .i64 0]):=by
 have CM:=Lib.hid (hmade_at h)
 obtain⟨h1,⟨g,cp,a1,a2,a3,a4,rfl⟩,h3⟩:=h
 refine⟨g,cp,by omega,rfl,?_⟩
 have CA:=Lib.hid (hall_at a1 (by omega))
 have CO:=Lib.hid (hof_at a1 k hk a2 (by omega))
 have d1:decide ((k:Int)<0)=false:=decide_eq_false (by omega)
 have d2:decide ((n:Int)/16<=k)=false:=decide_eq_false (by omega)
 clear a1 a3 h3
 go_enter Tryz.func190,Tryz.ntmps190
 go_wp2_with (first|(go_at_call 178;with_reducible refine Still.use CM.out ?_)|(go_at_call 212;with_reducible refine Still.use CA.out ?_)|(go_at_call 213;with_reducible refine Still.use CO.out ?_))
 go_ret2
 exact⟨rfl,rfl⟩
set_option maxHeartbeats 1000000 in
theorem HAdd_at {n p:Nat} {L:Nat->Int} {w:World} {fp:List Nat} (h:HuSt n p L w fp) (k:Nat) (hk:16*k+16<=n):Calls Tryz.prog 161 #[.pointer (some ⟨p,0,none⟩),.int .i64 k] w fun e w'=>∃v,e=.returned v/\
 ((L (16*k)≠0/\w'=w)\/(L (16*k)=0/\Only fp w w'/\HuSt n p (fun j=>if 16*k<=j/\j<16*k+16 then 3 else L j) w' fp)):=by
 obtain⟨g',cp',hcp,e,C⟩:=hhuge_at h k hk
 obtain⟨h1,⟨g,cp,a1,a2,a3,a4,rfl⟩,h3⟩:=h
 simp only[List.cons.injEq,and_true,true_and] at e
 subst e
 have CH:=Lib.hid C
 have c0:=a3.cell (show 16*k<n by omega)
 have CF:=Lib.hid (hfill_any w g n (16*k) 16 (cp'-16*k) 3 L a3 (by omega) (by omega))
 have A1:=Lib.hid a1
 have H3:=Lib.hid h3
 clear a1 a3 h3 C
 obtain⟨a,ha⟩:∃a,a=16*k:=⟨_,rfl⟩
 rw[<-ha] at CH CF c0 ⊢
 have hc16:(0:Int)<16:=by decide
 by_cases h0:L a=0
 ·rw[h0] at c0
  have H0:=Lib.hid h0
  clear h0 ha
  go_enter Tryz.func161,Tryz.ntmps161
  go_wp2_with (first|(go_at_call 190;with_reducible refine Still.use CH.out ?_))
  refine CF.out.mono ?_
  rintro e w2 ⟨rfl,ho2,hr2⟩
  have E:=Lib.hid (HuSt.of h1 A1.out a2 a4 ho2 hr2 (fun j=>by
   have:=H3.out j
   split<;>omega))
  clear hr2
  go_wp2_with fail
  go_ret
  exact⟨_,rfl,.inr ⟨H0.out,E.out.2,E.out.1⟩⟩
 ·have d0:(L a==0)=false:=beq_eq_false_iff_ne.2 h0
  have H0:=Lib.hid h0
  clear h0 ha
  go_enter Tryz.func161,Tryz.ntmps161
  go_wp2_with (first|(go_at_call 190;with_reducible refine Still.use CH.out ?_))
  go_ret
  exact⟨_,rfl,.inl ⟨H0.out,rfl⟩⟩
theorem reads_lit1 (w:World) (x:Int):ReadsI (w.alloc (.cells #[.int .i64 x] 3)) (some ⟨w.heap.size,0,none⟩) 1 [x]:=⟨rfl,fun _=>⟨_,rfl,fun j hj=>by
 obtain rfl:j=0:=by omega
 exact cell_new1 w (.int .i64 x) 3 0 _ rfl⟩⟩
theorem reads_lit2 (w:World) (x y:Int):ReadsI (w.alloc (.cells #[.int .i64 x,.int .i64 y] 3)) (some ⟨w.heap.size,0,none⟩) 2 [x,y]:=⟨rfl,fun _=>⟨_,rfl,fun j hj=>by
 rcases (show j=0\/j=1 by omega) with rfl|rfl
 ·exact news_new w #[.int .i64 x,.int .i64 y] 3 0 _ rfl
 ·exact news_new w #[.int .i64 x,.int .i64 y] 3 1 _ rfl⟩⟩
theorem hpred_any (w:World) (X Y m c:Nat) (from_:List Int) (s:Int) (hX:w.cell? ⟨X,0,none⟩=some (.slice (some ⟨Y,0,none⟩) m c)) (hr:ReadsI w (some ⟨Y,0,none⟩) m from_) (hm:m<=1000):Still Tryz.prog 193 #[.int .i64 s,.pointer (some ⟨X,0,none⟩)] w (.bool (!(decide (0<=idxOf from_ s)))):=by
 have C:=Lib.hid (contains_any w (some ⟨Y,0,none⟩) m c from_ s hr (by omega))
 generalize decide (0<=idxOf from_ s)=b at *
 clear hr
 go_enter Tryz.func193,Tryz.ntmps193
 go_wp2_with (go_at_call 172;with_reducible refine Still.use C.out ?_)
 go_ret
 exact⟨rfl,rfl⟩
set_option maxHeartbeats 1000000 in
theorem hindex_any (w:World) (X Y m c:Nat) (from_:List Int) (g n o k cp:Nat) (f:Nat->Int) (hX:w.cell? ⟨X,0,none⟩=some (.slice (some ⟨Y,0,none⟩) m c)) (hr:ReadsI w (some ⟨Y,0,none⟩) m from_) (hm:m<=1000) (h:Row w g n (fun j=>.int .i64 (f j))) (ho:o+k<=n) (hn:n<=1024):
 Calls Tryz.prog 214 #[.slice (some ⟨g,o,none⟩) k cp,.func (.func 193) #[] #[.pointer (some ⟨X,0,none⟩)]] w fun e w'=>w'=w/\((∃j:Nat,e=.returned (.int .i64 j))\/(e=.returned (.int .i64 (-1))/\∀j,j<k->0<=idxOf from_ (f (o+j)))):=by
 have H:=Lib.hid h
 have CP:=Lib.hid (fun s=>hpred_any w X Y m c from_ s hX hr hm)
 clear h hX hr
 go_enter Tryz.func214,Tryz.ntmps214
 go_wp2_with fail
 go_loopw[8] (fun t wr=>∃j:Nat,j<=k/\t=.int .i64 j/\wr=w/\∀i,i<j->0<=idxOf from_ (f (o+i))) (fun t _=>k-(intOf t).toNat)
 case atStart=>exact⟨0,Nat.zero_le _,rfl,rfl,fun i hi=>absurd hi (by omega)⟩
 case round=>
  obtain⟨j,hj,rfl,rfl,hF⟩:=hrel
  have HF:=Lib.hid hF
  clear hF
  by_cases hlt:j<k
  ·have d1:decide ((j:Int)<k)=true:=decide_eq_true (by omega)
   have c0:=H.out.cell (show o+j<n by omega)
   have hjk:(j:Int)<k:=by omega
   have CS:=Lib.hid (CP.out (f (o+j)))
   by_cases h0:0<=idxOf from_ (f (o+j))
   ·have HF2:=Lib.hid (show ∀i,i<j+1->0<=idxOf from_ (f (o+i)) from fun i hi=>by
     by_cases e:i=j
     ·rw[e];exact h0
     ·exact HF.out i (by omega))
    rw[decide_eq_true h0] at CS
    clear h0
    generalize f (o+j)=s at *
    go_wp2_with (go_at_call 193;with_reducible refine Still.use CS.out ?_)
    go_roundw
    case rel=>exact⟨j+1,by omega,by go_num,by first|rfl|trivial,HF2.out⟩
    case measure=>simp[intOf];omega
   ·rw[decide_eq_false h0] at CS
    clear h0
    generalize f (o+j)=s at *
    go_wp2_with (go_at_call 193;with_reducible refine Still.use CS.out ?_)
    go_ret
    exact⟨by first|rfl|trivial,.inl ⟨j,rfl⟩⟩
  ·have e:j=k:=by omega
   subst e
   have d1:decide ((j:Int)<j)=false:=decide_eq_false (by omega)
   go_wp2_with fail
   go_ret
   exact⟨by first|rfl|trivial,.inr ⟨rfl,HF.out⟩⟩
theorem hcontains_any (w:World) (X Y m c:Nat) (from_:List Int) (g n o k cp:Nat) (f:Nat->Int) (hX:w.cell? ⟨X,0,none⟩=some (.slice (some ⟨Y,0,none⟩) m c)) (hr:ReadsI w (some ⟨Y,0,none⟩) m from_) (hm:m<=1000) (h:Row w g n (fun j=>.int .i64 (f j))) (ho:o+k<=n) (hn:n<=1024):
 Calls Tryz.prog 192 #[.slice (some ⟨g,o,none⟩) k cp,.func (.func 193) #[] #[.pointer (some ⟨X,0,none⟩)]] w fun e w'=>w'=w/\∃b,e=.returned (.bool b)/\(b=false->∀j,j<k->0<=idxOf from_ (f (o+j))):=by
 have C:=Lib.hid (hindex_any w X Y m c from_ g n o k cp f hX hr hm h ho hn)
 clear h hX hr
 go_enter Tryz.func192,Tryz.ntmps192
 go_wp2_with fail
 refine C.out.mono ?_
 rintro e w1 ⟨rfl,⟨j,rfl⟩|⟨rfl,h⟩⟩
 ·have d1:decide ((0:Int)<=(j:Int))=true:=decide_eq_true (by omega)
  go_wp2_with fail
  go_ret
  exact⟨by first|rfl|trivial,true,by first|rfl|trivial,fun h=>by cases h⟩
 ·have H:=Lib.hid h
  clear h
  go_wp2_with fail
  go_ret
  exact⟨by first|rfl|trivial,false,by first|rfl|trivial,fun _=>H.out⟩
set_option maxHeartbeats 1000000 in
theorem hturn_at {n p:Nat} {L:Nat->Int} {w:World} {fp:List Nat} (h:HuSt n p L w fp) (o m:Nat) (hm:1<=m) (hom:o+m<=n) (to:Int) (hto:0<=to/\to<=3) (Y k c:Nat) (from_:List Int) (hr:ReadsI w (some ⟨Y,0,none⟩) k from_) (hk:k<=1000):
 Calls Tryz.prog 162 #[.pointer (some ⟨p,0,none⟩),.int .i64 o,.int .i64 m,.int .i64 to,.slice (some ⟨Y,0,none⟩) k c] w fun e w'=>∃v,e=.returned v/\Only fp w w'/\
  (HuSt n p L w' fp\/((∀j,o<=j->j<o+m->0<=idxOf from_ (L j))/\HuSt n p (fun j=>if o<=j/\j<o+m then to else L j) w' fp)):=by
 have o1:=(Only.refl [] w).alloc (.cells #[.slice (some ⟨Y,0,none⟩) k c] 37)
 have bX:=Blk.new w 37 #[.slice (some ⟨Y,0,none⟩) k c]
 have x0:=bX.cell_ 0 rfl
 have h':=(HuSt.framed n p L).still h o1
 have hr':=hr.only o1 (by simp)
 have H:=Lib.hid h'
 have CM:=Lib.hid (hmade_at h')
 obtain⟨h1,⟨g,cp,a1,a2,a3,a4,rfl⟩,h3⟩:=h'
 have HRR:=Lib.hid hr'
 have HA3:=Lib.hid a3
 have HOM:=Lib.hid hom
 have CF:=Lib.hid (hfill_any _ g n o m (cp-o) to L a3 hom (by omega))
 have z0:=a1.cell_ 0 rfl
 have A1:=Lib.hid a1
 have H3:=Lib.hid h3
 have HO:=Lib.hid o1
 have d1:decide ((o:Int)<0)=false:=decide_eq_false (by omega)
 have d2:decide ((m:Int)<1)=false:=decide_eq_false (by omega)
 have d3:decide ((n:Int)<o)=false:=decide_eq_false (by omega)
 have w1:IntKind.i64.wrap ((n:Int)-o)=n-o:=IntWalk.i64_in _ (by omega)
 have d4:decide ((n:Int)-o<m)=false:=decide_eq_false (by omega)
 obtain⟨om,hom'⟩:∃x,x=o+m:=⟨_,rfl⟩
 have w2:IntKind.i64.wrap ((o:Int)+m)=om:=by rw[IntWalk.i64_in _ (by omega)];omega
 have hcp:¬(cp=o):=by omega
 have l1:(0:Int)<=o:=by omega
 have l2:(o:Int)<=om:=by omega
 have l3:(om:Int)<=cp:=by omega
 have HS:=Lib.hid (show om-o=m by omega)
 clear a1 a3 h3 h hr hr' o1 hom' bX
 go_enter Tryz.func162,Tryz.ntmps162
 go_wp2_with (first|(go_at_call 178;with_reducible refine Still.use CM.out ?_))
 have HCO:=Lib.hid (hcontains_any _ _ Y k c from_ g n o m (cp-o) L x0 HRR.out hk HA3.out HOM.out (by omega))
 rw[HS.out]
 refine HCO.out.mono ?_
 rintro e w1 ⟨rfl,b,rfl,hb⟩
 have HB:=Lib.hid hb
 clear hb
 cases b with
 |true=>
  go_wp2_with fail
  go_ret
  exact⟨_,rfl,HO.out.of_nil,.inl H.out⟩
 |false=>
  go_wp2_with fail
  refine CF.out.mono ?_
  rintro e w2 ⟨rfl,ho2,hr2⟩
  have E:=Lib.hid (HuSt.of h1 A1.out a2 a4 ho2 hr2 (fun j=>by
   have:=H3.out j
   split<;>omega))
  clear hr2
  go_wp2_with fail
  go_ret
  exact⟨_,rfl,HO.out.of_nil.trans E.out.2,.inr ⟨fun j h1 h2=>by
   have:=HB.out (by first|trivial|rfl) (j-o) (by omega)
   rwa[show o+(j-o)=j by omega] at this,E.out.1⟩⟩
theorem HUse_at {n p:Nat} {L:Nat->Int} {w:World} {fp:List Nat} (h:HuSt n p L w fp) (o m:Nat) (hm:1<=m) (hom:o+m<=n):
 Calls Tryz.prog 134 #[.pointer (some ⟨p,0,none⟩),.int .i64 o,.int .i64 m] w fun e w'=>∃v,e=.returned v/\Only fp w w'/\∃L',HuSt n p L' w' fp/\∀j,L' j=0↔L j=0:=by
 have o1:=(Only.refl [] w).alloc (.cells #[.int .i64 2,.int .i64 3] 3)
 have C:=Lib.hid (hturn_at ((HuSt.framed n p L).still h o1) o m hm hom 1 (by omega) w.heap.size 2 2 [2,3] (reads_lit2 w 2 3) (by omega))
 have HO:=Lib.hid o1
 clear h o1
 go_enter Tryz.func134,Tryz.ntmps134
 go_wp2_with fail
 refine C.out.mono ?_
 rintro e w1 ⟨v,rfl,ho1,hd⟩
 have HD:=Lib.hid hd
 clear hd
 go_wp2_with fail
 go_ret
 refine⟨_,rfl,HO.out.of_nil.trans ho1,?_⟩
 rcases HD.out with h|⟨hf,h⟩
 ·exact⟨L,h,fun j=>Iff.rfl⟩
 ·refine⟨_,h,fun j=>?_⟩
  split
  ·rename_i hj
   have:=hf j hj.1 hj.2
   constructor
   ·intro h;cases h
   ·intro h
    rw[h] at this
    revert this
    decide
  ·rfl
theorem HUnuse_at {n p:Nat} {L:Nat->Int} {w:World} {fp:List Nat} (h:HuSt n p L w fp) (o m:Nat) (hm:1<=m) (hom:o+m<=n):
 Calls Tryz.prog 149 #[.pointer (some ⟨p,0,none⟩),.int .i64 o,.int .i64 m] w fun e w'=>∃v,e=.returned v/\Only fp w w'/\∃L',HuSt n p L' w' fp/\∀j,L' j=0↔L j=0:=by
 have o1:=(Only.refl [] w).alloc (.cells #[.int .i64 1] 3)
 have C:=Lib.hid (hturn_at ((HuSt.framed n p L).still h o1) o m hm hom 2 (by omega) w.heap.size 1 1 [1] (reads_lit1 w 1) (by omega))
 have HO:=Lib.hid o1
 clear h o1
 go_enter Tryz.func149,Tryz.ntmps149
 go_wp2_with fail
 refine C.out.mono ?_
 rintro e w1 ⟨v,rfl,ho1,hd⟩
 have HD:=Lib.hid hd
 clear hd
 go_wp2_with fail
 go_ret
 refine⟨_,rfl,HO.out.of_nil.trans ho1,?_⟩
 rcases HD.out with h|⟨hf,h⟩
 ·exact⟨L,h,fun j=>Iff.rfl⟩
 ·refine⟨_,h,fun j=>?_⟩
  split
  ·rename_i hj
   have:=hf j hj.1 hj.2
   constructor
   ·intro h;cases h
   ·intro h
    rw[h] at this
    revert this
    decide
  ·rfl
end Go.Proofs.YtcidjimefnhacaaGreatDoor
namespace Go.Proofs.YtcidjimefnhacaaGreatDoor
open Go.RowKit
def RowT (w:World) (b:Nat) (t:TypeId) (n:Nat) (f:Nat->Value):Prop:=∃cs,Blk w b t cs/\cs.size=n/\∀k,k<n->cs[k]? =some (f k)
namespace RowT
variable {w w':World} {b n:Nat} {t t':TypeId} {f f':Nat->Value}
theorem lt (h:RowT w b t n f):b<w.heap.size:=by obtain⟨cs,hb,_⟩:=h;exact hb.lt
theorem only {l:List Nat} (h:RowT w b t n f) (ho:Only l w w') (hb:b∉l):RowT w' b t n f:=by obtain⟨cs,h1,r⟩:=h;exact⟨cs,h1.only ho hb,r⟩
theorem cell (h:RowT w b t n f) {k:Nat} (hk:k<n):w.cell? ⟨b,k,none⟩=some (f k):=by obtain⟨cs,h1,h2,h3⟩:=h;exact h1.cell_ k (h3 k hk)
theorem frozen (h:RowT w b t n f) (k:Nat):w.frozen? ⟨b,k,none⟩=false:=by obtain⟨cs,h1,_⟩:=h;exact h1.frozen k
theorem set_ (h:RowT w b t n f) (i:Nat) (u:Value):RowT (w.setCell ⟨b,i,none⟩ u) b t n (fun k=>if k=i then u else f k):=by
 obtain⟨cs,h1,h2,h3⟩:=h
 refine⟨_,h1.set_ i u,by simpa using h2,fun k hk=>?_⟩
 rw[Array.getElem?_setIfInBounds]
 by_cases e:i=k
 ·subst e
  simp[show i<cs.size by omega]
 ·rw[if_neg e,h3 k hk]
  try dsimp only
  rw[if_neg (fun e'=>e e'.symm)]
theorem congr (h:RowT w b t n f) (he:∀k,k<n->f k=f' k):RowT w b t n f':=by
 obtain⟨cs,h1,h2,h3⟩:=h
 exact⟨cs,h1,h2,fun k hk=>by rw[h3 k hk,he k hk]⟩
theorem ne {n' b':Nat} (h:RowT w b t n f) (h':RowT w b' t' n' f') (ht:t≠t'):b≠b':=by
 rintro rfl
 obtain⟨cs,h1,_⟩:=h
 obtain⟨cs',h2,_⟩:=h'
 have a1:w.heap[b]? =some (.cells cs t):=h1
 have a2:w.heap[b]? =some (.cells cs' t'):=h2
 rw[a1] at a2
 injection a2 with a2
 injection a2 with _ a2 _
 exact ht a2
theorem new (w:World) (t:TypeId) (cs:Array Value) (f:Nat->Value) (hf:∀k,k<cs.size->cs[k]? =some (f k)):RowT (w.alloc (.cells cs t)) w.heap.size t cs.size f:=⟨cs,Blk.new w t cs,rfl,hf⟩
end RowT
def pv (o:Option Nat):Value:=.pointer (o.map fun b=>⟨b,0,none⟩)
def isLeaf (w:World) (c:Nat):Prop:=∃f:Nat->Int,RowT w c 319 8 (fun k=>.int .i64 (f k))
def isMid (w:World) (fp:List Nat) (b:Nat):Prop:=∃f:Nat->Option Nat,RowT w b 315 8 (fun k=>pv (f k))/\∀j c,j<8->f j=some c->c∈fp/\isLeaf w c
structure PmSt (p:Nat) (w:World) (fp:List Nat):Prop where
 mem:p∈fp
 lt:∀b∈fp,b<w.heap.size
 ex:∃f:Nat->Option Nat,RowT w p 170 17 (fun k=>if k=0 then .bool true else pv (f (k-1)))/\∀i b,i<16->f i=some b->b∈fp/\isMid w fp b
theorem isLeaf.only {w w':World} {c:Nat} {l:List Nat} (h:isLeaf w c) (ho:Only l w w') (hc:c∉l):isLeaf w' c:=by obtain⟨f,h⟩:=h;exact⟨f,h.only ho hc⟩
theorem isMid.only {w w':World} {b:Nat} {fp l:List Nat} (h:isMid w fp b) (ho:Only l w w') (hb:b∉l) (hfp:∀c∈fp,isLeaf w c->c∉l):isMid w' fp b:=by
 obtain⟨f,h1,h2⟩:=h
 refine⟨f,h1.only ho hb,fun j c hj hc=>?_⟩
 obtain⟨h3,h4⟩:=h2 j c hj hc
 exact⟨h3,h4.only ho (hfp c h3 h4)⟩
theorem isMid.mono {w:World} {b:Nat} {fp fp':List Nat} (h:isMid w fp b) (hs:∀c∈fp,c∈fp'):isMid w fp' b:=by
 obtain⟨f,h1,h2⟩:=h
 exact⟨f,h1,fun j c hj hc=>⟨hs c (h2 j c hj hc).1,(h2 j c hj hc).2⟩⟩
theorem PmSt.framed (p:Nat):Framed (PmSt p):=by
 constructor
 ·rintro w w' fp l ⟨h1,h2,f,h3,h4⟩ ho hb
  refine⟨h1,fun b hb'=>Nat.lt_of_lt_of_le (h2 b hb') ho.size,f,h3.only ho (hb _ h1),fun i b hi hbi=>?_⟩
  obtain⟨h5,h6⟩:=h4 i b hi hbi
  exact⟨h5,h6.only ho (hb _ h5) (fun c hc _=>hb c hc)⟩
 ·exact fun h=>h.lt
theorem PmSt.mono {p:Nat} {w:World} {fp fp':List Nat} (h:PmSt p w fp) (hs:∀c∈fp,c∈fp') (hl:∀b∈fp',b<w.heap.size):PmSt p w fp':=by
 obtain⟨h1,h2,f,h3,h4⟩:=h
 exact⟨hs _ h1,hl,f,h3,fun i b hi hbi=>⟨hs _ (h4 i b hi hbi).1,(h4 i b hi hbi).2.mono hs⟩⟩
theorem leaf_ne_mid {w:World} {b c:Nat} {fp:List Nat} (h:isMid w fp b) (h':isLeaf w c):c≠b:=by
 obtain⟨f,h1,_⟩:=h
 obtain⟨g,h2⟩:=h'
 exact h2.ne h1 (by decide)
theorem PmSt.upd1 {p:Nat} {w:World} {fp:List Nat} (h:PmSt p w fp) (i:Nat) (hi:i<16) (x:Option Nat) (hx:∀b,x=some b->b∈fp/\isMid w fp b):PmSt p (w.setCell ⟨p,i+1,none⟩ (pv x)) fp:=by
 obtain⟨h1,h2,f,h3,h4⟩:=h
 have oS:Only [p] w (w.setCell ⟨p,i+1,none⟩ (pv x)):=(Only.refl [p] w).setCell (.inl (by simp)) _
 have hm:∀b,isMid w fp b->b≠p/\isMid (w.setCell ⟨p,i+1,none⟩ (pv x)) fp b:=fun b hb=>by
  have hb':=hb
  obtain⟨g,g1,g2⟩:=hb
  have hne:b≠p:=g1.ne h3 (by decide)
  refine⟨hne,hb'.only oS (by simpa using hne) (fun c hc hl=>?_)⟩
  obtain⟨g3,g4⟩:=hl
  simpa using g4.ne h3 (by decide)
 refine⟨h1,fun b hb=>by simpa using h2 b hb,fun j=>if j=i then x else f j,(h3.set_ (i+1) (pv x)).congr (fun k hk=>?_),fun j b hj hjb=>?_⟩
 ·try dsimp only
  rcases Nat.eq_zero_or_pos k with rfl|hk0
  ·simp
  ·by_cases e:k=i+1
   ·subst e;simp
   ·rw[if_neg e,if_neg (by omega),if_neg (by omega),if_neg (by omega)]
 ·try dsimp only at hjb
  by_cases e:j=i
  ·rw[if_pos e] at hjb
   obtain⟨a1,a2⟩:=hx b hjb
   exact⟨a1,(hm b a2).2⟩
  ·rw[if_neg e] at hjb
   obtain⟨a1,a2⟩:=h4 j b hj hjb
   exact⟨a1,(hm b a2).2⟩
theorem isMid.upd {w:World} {fp:List Nat} {b m:Nat} (hm:isMid w fp m) (j:Nat) (hj:j<8) (x:Option Nat) (hx:∀c,x=some c->c∈fp/\isLeaf w c) (h:isMid w fp b):isMid (w.setCell ⟨m,j,none⟩ (pv x)) fp b:=by
 have oS:Only [m] w (w.setCell ⟨m,j,none⟩ (pv x)):=(Only.refl [m] w).setCell (.inl (by simp)) _
 have hl:∀c,isLeaf w c->isLeaf (w.setCell ⟨m,j,none⟩ (pv x)) c:=fun c hc=>hc.only oS (by simpa using leaf_ne_mid hm hc)
 by_cases e:b=m
 ·subst e
  obtain⟨f,h1,h2⟩:=h
  refine⟨fun k=>if k=j then x else f k,(h1.set_ j (pv x)).congr (fun k hk=>by by_cases e:k=j<;>simp[e]),fun k c hk hc=>?_⟩
  try dsimp only at hc
  by_cases e2:k=j
  ·rw[if_pos e2] at hc
   exact⟨(hx c hc).1,hl c (hx c hc).2⟩
  ·rw[if_neg e2] at hc
   exact⟨(h2 k c hk hc).1,hl c (h2 k c hk hc).2⟩
 ·exact h.only oS (by simpa using e) (fun c _ hc=>by simpa using leaf_ne_mid hm hc)
theorem PmSt.upd2 {p:Nat} {w:World} {fp:List Nat} (h:PmSt p w fp) {m:Nat} (hm:isMid w fp m) (j:Nat) (hj:j<8) (x:Option Nat) (hx:∀c,x=some c->c∈fp/\isLeaf w c):PmSt p (w.setCell ⟨m,j,none⟩ (pv x)) fp:=by
 obtain⟨h1,h2,f,h3,h4⟩:=h
 have oS:Only [m] w (w.setCell ⟨m,j,none⟩ (pv x)):=(Only.refl [m] w).setCell (.inl (by simp)) _
 have hpm:p≠m:=by
  obtain⟨g,g1,_⟩:=hm
  exact h3.ne g1 (by decide)
 exact⟨h1,fun b hb=>by simpa using h2 b hb,f,h3.only oS (by simpa using hpm),fun i b hi hbi=>⟨(h4 i b hi hbi).1,isMid.upd hm j hj x hx (h4 i b hi hbi).2⟩⟩
theorem isLeaf.upd {w:World} {c l:Nat} (hl:isLeaf w l) (k:Nat) (v:Int) (h:isLeaf w c):isLeaf (w.setCell ⟨l,k,none⟩ (.int .i64 v)) c:=by
 by_cases e:c=l
 ·subst e
  obtain⟨f,h⟩:=h
  exact⟨fun j=>if j=k then v else f j,(h.set_ k (.int .i64 v)).congr (fun j hj=>by by_cases e:j=k<;>simp[e])⟩
 ·exact h.only ((Only.refl [l] w).setCell (p:=⟨l,k,none⟩) (.inl (by simp)) _) (by simpa using e)
theorem isMid.upd3 {w:World} {fp:List Nat} {b l:Nat} (hl:isLeaf w l) (k:Nat) (v:Int) (h:isMid w fp b):isMid (w.setCell ⟨l,k,none⟩ (.int .i64 v)) fp b:=by
 have hne:=leaf_ne_mid h hl
 obtain⟨f,h1,h2⟩:=h
 exact⟨f,h1.only ((Only.refl [l] w).setCell (p:=⟨l,k,none⟩) (.inl (by simp)) _) (by simpa using fun e=>hne e.symm),fun j c hj hc=>⟨(h2 j c hj hc).1,hl.upd k v (h2 j c hj hc).2⟩⟩
theorem PmSt.upd3 {p:Nat} {w:World} {fp:List Nat} (h:PmSt p w fp) {l:Nat} (hl:isLeaf w l) (k:Nat) (v:Int):PmSt p (w.setCell ⟨l,k,none⟩ (.int .i64 v)) fp:=by
 obtain⟨h1,h2,f,h3,h4⟩:=h
 have hpl:p≠l:=by
  obtain⟨g,g1⟩:=hl
  exact h3.ne g1 (by decide)
 exact⟨h1,fun b hb=>by simpa using h2 b hb,f,h3.only ((Only.refl [l] w).setCell (p:=⟨l,k,none⟩) (.inl (by simp)) _) (by simpa using hpl),fun i b hi hbi=>⟨(h4 i b hi hbi).1,(h4 i b hi hbi).2.upd3 hl k v⟩⟩
def ThereP (w:World) (b o:Nat) (x:Option Nat) (ob:Obj) (e:Ending) (w':World):Prop:=
 (∃c,x=some c/\e=.returned (.pointer (some ⟨c,0,none⟩))/\w'=w)\/
 (x=none/\e=.returned (.pointer (some ⟨w.heap.size,0,none⟩))/\w'=(w.setCell ⟨b,o,none⟩ (.pointer (some ⟨w.heap.size,0,none⟩))).alloc ob)
theorem there_mid (w:World) (b o:Nat) (x:Option Nat) (hc:w.cell? ⟨b,o,none⟩=some (pv x)) (hf:w.frozen? ⟨b,o,none⟩=false):Calls Tryz.prog 215 #[.pointer (some ⟨b,o,none⟩)] w (ThereP w b o x (.cells #[.pointer none,.pointer none,.pointer none,.pointer none,.pointer none,.pointer none,.pointer none,.pointer none] 315)):=by
 have hl:=World.block_lt_of_cell? w _ hc
 cases x with
 |some c=>
  have hc':w.cell? ⟨b,o,none⟩=some (.pointer (some ⟨c,0,none⟩)):=hc
  clear hc
  go_enter Tryz.func215,Tryz.ntmps215
  go_wp2_with fail
  go_ret
  exact .inl ⟨c,rfl,rfl,rfl⟩
 |none=>
  have hc':w.cell? ⟨b,o,none⟩=some (.pointer none):=hc
  clear hc
  go_enter Tryz.func215,Tryz.ntmps215
  go_wp2_with fail
  go_ret
  exact .inr ⟨rfl,rfl,rfl⟩
theorem there_leaf (w:World) (b o:Nat) (x:Option Nat) (hc:w.cell? ⟨b,o,none⟩=some (pv x)) (hf:w.frozen? ⟨b,o,none⟩=false):Calls Tryz.prog 216 #[.pointer (some ⟨b,o,none⟩)] w (ThereP w b o x (.cells #[.int .i64 0,.int .i64 0,.int .i64 0,.int .i64 0,.int .i64 0,.int .i64 0,.int .i64 0,.int .i64 0] 319)):=by
 have hl:=World.block_lt_of_cell? w _ hc
 cases x with
 |some c=>
  have hc':w.cell? ⟨b,o,none⟩=some (.pointer (some ⟨c,0,none⟩)):=hc
  clear hc
  go_enter Tryz.func216,Tryz.ntmps216
  go_wp2_with fail
  go_ret
  exact .inl ⟨c,rfl,rfl,rfl⟩
 |none=>
  have hc':w.cell? ⟨b,o,none⟩=some (.pointer none):=hc
  clear hc
  go_enter Tryz.func216,Tryz.ntmps216
  go_wp2_with fail
  go_ret
  exact .inr ⟨rfl,rfl,rfl⟩
theorem PmSt.newMid {p:Nat} {w:World} {fp:List Nat} (h:PmSt p w fp) (i:Nat) (hi:i<16):PmSt p ((w.setCell ⟨p,i+1,none⟩ (.pointer (some ⟨w.heap.size,0,none⟩))).alloc (.cells #[.pointer none,.pointer none,.pointer none,.pointer none,.pointer none,.pointer none,.pointer none,.pointer none] 315)) (w.heap.size::fp)/\
 isMid ((w.setCell ⟨p,i+1,none⟩ (.pointer (some ⟨w.heap.size,0,none⟩))).alloc (.cells #[.pointer none,.pointer none,.pointer none,.pointer none,.pointer none,.pointer none,.pointer none,.pointer none] 315)) (w.heap.size::fp) w.heap.size:=by
 have hp:=h.lt p h.mem
 have hn:RowT (w.alloc (.cells #[.pointer none,.pointer none,.pointer none,.pointer none,.pointer none,.pointer none,.pointer none,.pointer none] 315)) w.heap.size 315 8 (fun k=>pv ((fun _=>none:Nat->Option Nat) k)):=
  RowT.new w 315 #[.pointer none,.pointer none,.pointer none,.pointer none,.pointer none,.pointer none,.pointer none,.pointer none] _ (fun k hk=>by
   have hk:k<8:=hk
   rcases (show k=0\/k=1\/k=2\/k=3\/k=4\/k=5\/k=6\/k=7 by omega) with rfl|rfl|rfl|rfl|rfl|rfl|rfl|rfl<;>rfl)
 have hm:isMid (w.alloc (.cells #[.pointer none,.pointer none,.pointer none,.pointer none,.pointer none,.pointer none,.pointer none,.pointer none] 315)) (w.heap.size::fp) w.heap.size:=⟨_,hn,fun j c _ hc=>by cases hc⟩
 have h1:=((PmSt.framed p).still h ((Only.refl [] w).alloc (.cells #[.pointer none,.pointer none,.pointer none,.pointer none,.pointer none,.pointer none,.pointer none,.pointer none] 315))).mono (fp':=w.heap.size::fp) (fun c hc=>by simp[hc]) (fun b hb=>by
  simp only[List.mem_cons] at hb
  rw[World.size_alloc]
  rcases hb with rfl|hb
  ·omega
  ·have:=h.lt b hb;omega)
 have h2:=h1.upd1 i hi (some w.heap.size) (fun b hb=>by injection hb with hb;subst hb;exact⟨by simp,hm⟩)
 have e:(w.alloc (.cells #[.pointer none,.pointer none,.pointer none,.pointer none,.pointer none,.pointer none,.pointer none,.pointer none] 315)).setCell ⟨p,i+1,none⟩ (pv (some w.heap.size))=(w.setCell ⟨p,i+1,none⟩ (.pointer (some ⟨w.heap.size,0,none⟩))).alloc (.cells #[.pointer none,.pointer none,.pointer none,.pointer none,.pointer none,.pointer none,.pointer none,.pointer none] 315):=by
  simp[pv,go_sem,hp]
 rw[e] at h2
 refine⟨h2,?_⟩
 rw[<-e]
 have oS:Only [p] (w.alloc (.cells #[.pointer none,.pointer none,.pointer none,.pointer none,.pointer none,.pointer none,.pointer none,.pointer none] 315)) ((w.alloc (.cells #[.pointer none,.pointer none,.pointer none,.pointer none,.pointer none,.pointer none,.pointer none,.pointer none] 315)).setCell ⟨p,i+1,none⟩ (pv (some w.heap.size))):=(Only.refl [p] _).setCell (.inl (by simp)) _
 exact⟨_,hn.only oS (by simp;omega),fun j c _ hc=>by cases hc⟩
theorem PmSt.newLeaf {p:Nat} {w:World} {fp:List Nat} (h:PmSt p w fp) {m:Nat} (hmf:m∈fp) (hm:isMid w fp m) (j:Nat) (hj:j<8):PmSt p ((w.setCell ⟨m,j,none⟩ (.pointer (some ⟨w.heap.size,0,none⟩))).alloc (.cells #[.int .i64 0,.int .i64 0,.int .i64 0,.int .i64 0,.int .i64 0,.int .i64 0,.int .i64 0,.int .i64 0] 319)) (w.heap.size::fp)/\
 isLeaf ((w.setCell ⟨m,j,none⟩ (.pointer (some ⟨w.heap.size,0,none⟩))).alloc (.cells #[.int .i64 0,.int .i64 0,.int .i64 0,.int .i64 0,.int .i64 0,.int .i64 0,.int .i64 0,.int .i64 0] 319)) w.heap.size/\
 isMid ((w.setCell ⟨m,j,none⟩ (.pointer (some ⟨w.heap.size,0,none⟩))).alloc (.cells #[.int .i64 0,.int .i64 0,.int .i64 0,.int .i64 0,.int .i64 0,.int .i64 0,.int .i64 0,.int .i64 0] 319)) (w.heap.size::fp) m:=by
 have hml:=h.lt m hmf
 have hn:RowT (w.alloc (.cells #[.int .i64 0,.int .i64 0,.int .i64 0,.int .i64 0,.int .i64 0,.int .i64 0,.int .i64 0,.int .i64 0] 319)) w.heap.size 319 8 (fun k=>.int .i64 ((fun _=>0:Nat->Int) k)):=
  RowT.new w 319 #[.int .i64 0,.int .i64 0,.int .i64 0,.int .i64 0,.int .i64 0,.int .i64 0,.int .i64 0,.int .i64 0] _ (fun k hk=>by
   have hk:k<8:=hk
   rcases (show k=0\/k=1\/k=2\/k=3\/k=4\/k=5\/k=6\/k=7 by omega) with rfl|rfl|rfl|rfl|rfl|rfl|rfl|rfl<;>rfl)
 have hlf:isLeaf (w.alloc (.cells #[.int .i64 0,.int .i64 0,.int .i64 0,.int .i64 0,.int .i64 0,.int .i64 0,.int .i64 0,.int .i64 0] 319)) w.heap.size:=⟨_,hn⟩
 have oa:=(Only.refl [] w).alloc (.cells #[.int .i64 0,.int .i64 0,.int .i64 0,.int .i64 0,.int .i64 0,.int .i64 0,.int .i64 0,.int .i64 0] 319)
 have h1:=((PmSt.framed p).still h oa).mono (fp':=w.heap.size::fp) (fun c hc=>by simp[hc]) (fun b hb=>by
  simp only[List.mem_cons] at hb
  rw[World.size_alloc]
  rcases hb with rfl|hb
  ·omega
  ·have:=h.lt b hb;omega)
 have hm1:isMid (w.alloc (.cells #[.int .i64 0,.int .i64 0,.int .i64 0,.int .i64 0,.int .i64 0,.int .i64 0,.int .i64 0,.int .i64 0] 319)) (w.heap.size::fp) m:=(hm.only oa (by simp) (by simp)).mono (fun c hc=>by simp[hc])
 have hx:∀c,some w.heap.size=some c->c∈w.heap.size::fp/\isLeaf (w.alloc (.cells #[.int .i64 0,.int .i64 0,.int .i64 0,.int .i64 0,.int .i64 0,.int .i64 0,.int .i64 0,.int .i64 0] 319)) c:=fun c hc=>by injection hc with hc;subst hc;exact⟨by simp,hlf⟩
 have h2:=h1.upd2 hm1 j hj (some w.heap.size) hx
 have h3:=isMid.upd hm1 j hj (some w.heap.size) hx hm1
 have e:(w.alloc (.cells #[.int .i64 0,.int .i64 0,.int .i64 0,.int .i64 0,.int .i64 0,.int .i64 0,.int .i64 0,.int .i64 0] 319)).setCell ⟨m,j,none⟩ (pv (some w.heap.size))=(w.setCell ⟨m,j,none⟩ (.pointer (some ⟨w.heap.size,0,none⟩))).alloc (.cells #[.int .i64 0,.int .i64 0,.int .i64 0,.int .i64 0,.int .i64 0,.int .i64 0,.int .i64 0,.int .i64 0] 319):=by
  simp[pv,go_sem,hml]
 rw[e] at h2 h3
 refine⟨h2,?_,h3⟩
 rw[<-e]
 exact hlf.only ((Only.refl [m] _).setCell (p:=⟨m,j,none⟩) (.inl (by simp)) _) (by simp;omega)
theorem pgood_at {p:Nat} {w:World} {fp:List Nat} (h:PmSt p w fp):Still Tryz.prog 163 #[.pointer (some ⟨p,0,none⟩)] w (.bool true):=by
 obtain⟨h1,h2,f,h3,h4⟩:=h
 have z0:w.cell? ⟨p,0,none⟩=some (.bool true):=h3.cell (k:=0) (by omega)
 clear h3 h4
 go_enter Tryz.func163,Tryz.ntmps163
 go_wp2_with fail
 go_ret
 exact⟨rfl,rfl⟩
theorem PNew_any (w:World):Calls Tryz.prog 62 #[] w fun e w'=>e=.returned (.pointer (some ⟨w.heap.size,0,none⟩))/\Only [] w w'/\PmSt w.heap.size w' [w.heap.size]:=by
 go_enter Tryz.func62,Tryz.ntmps62
 go_wp2_with fail
 go_ret
 refine⟨rfl,(Only.refl [] w).alloc _,by simp,by simp,fun _=>none,?_,fun i b _ hb=>by cases hb⟩
 refine RowT.new w 170 #[.bool true,.pointer none,.pointer none,.pointer none,.pointer none,.pointer none,.pointer none,.pointer none,.pointer none,.pointer none,.pointer none,.pointer none,.pointer none,.pointer none,.pointer none,.pointer none,.pointer none] _ (fun k hk=>?_)
 have hk:k<17:=hk
 rcases (show k=0\/k=1\/k=2\/k=3\/k=4\/k=5\/k=6\/k=7\/k=8\/k=9\/k=10\/k=11\/k=12\/k=13\/k=14\/k=15\/k=16 by omega) with rfl|rfl|rfl|rfl|rfl|rfl|rfl|rfl|rfl|rfl|rfl|rfl|rfl|rfl|rfl|rfl|rfl<;>rfl
end Go.Proofs.YtcidjimefnhacaaGreatDoor
