/- TopSchedules, a part of the proof: SzE, SzF, SzF2. -/
import Derived.Test.YtcidjimefnhacaaGreatDoorM01
import Derived.RangeFuncNested
import Derived.RangeFuncBound
import Derived.RangeFuncBox
import Derived.RangeFuncCalls
import Derived.RangeFuncLeaves
import Derived.Shelf.Abstract
import Derived.Shelf.RegionOpen
import Derived.OwnWalkIn
import Derived.TacticsInMore
import Derived.LoopNIn
import Derived.LoopIn
import Derived.Maps.AppendAt
set_option linter.unusedVariables false
set_option linter.unusedSimpArgs false
namespace Go.Proofs.YtcidjimefnhacaaGreatDoor.Z
open Go.RowKit
set_option maxHeartbeats 800000 in
theorem pred_any (w:World) (x:Cl) (p q:Nat) (size align:Int) (hp:w.cell? ⟨p,0,none⟩=some (.int .i64 size)) (hq:w.cell? ⟨q,0,none⟩=some (.int .i64 align)) (h1:1<=align) (h2:8<=x.s) (h3:x.s<=512) (h4:align<=256):
 Grew Tryz.prog 123 #[x.val,.pointer (some ⟨p,0,none⟩),.pointer (some ⟨q,0,none⟩)] w (.bool (fitsC size align x)):=by
 obtain⟨xs,xp,xb⟩:=x
 unfold Cl.val fitsC
 dsimp only at *
 have ho:=(Only.refl [] w).alloc (.cells #[.int .i64 xs,.int .i64 xp,.int .i64 xb] 101)
 have b:=Blk.new w 101 #[.int .i64 xs,.int .i64 xp,.int .i64 xb]
 have hp1:=(ho.cell (World.block_lt_of_cell? w _ hp) (by simp)).trans hp
 have hq1:=(ho.cell (World.block_lt_of_cell? w _ hq) (by simp)).trans hq
 have hs0:(align==0)=false:=beq_eq_false_iff_ne.2 (by omega)
 clear hp hq
 have b0:=b.cell_ 0 rfl
 have b1:=b.cell_ 1 rfl
 have b2:=b.cell_ 2 rfl
 by_cases hd:size<=xs
 ·have d1:decide (size<=xs)=true:=decide_eq_true hd
  go_enter Tryz.func123,Tryz.ntmps123
  go_wp2
  go_ret
  refine⟨ret_bool ?_,ho⟩
  by_cases e:xs%align=0<;>simp[e,hd]
 ·have d1:decide (size<=xs)=false:=decide_eq_false hd
  go_enter Tryz.func123,Tryz.ntmps123
  go_wp2
  go_ret
  exact⟨ret_bool (by simp[d1]),ho⟩
def idxOf (l:List Cl) (size align:Int):Int:=if l.findIdx (fitsC size align)<l.length then(l.findIdx (fitsC size align):Nat) else -1
set_option maxHeartbeats 1600000 in
theorem IndexFunc_any (w:World) (A:Option Addr) (n c:Nat) (l:List Cl) (hr:ReadsC w A n l) (hn:n<=9223372036854775807) (hl:∀j,j<n->8<=(cAt l j).s/\(cAt l j).s<=512)
 (p q:Nat) (size align:Int) (hp:w.cell? ⟨p,0,none⟩=some (.int .i64 size)) (hq:w.cell? ⟨q,0,none⟩=some (.int .i64 align)) (h1:1<=align) (h4:align<=256):
 Grew Tryz.prog 122 #[.slice A n c,.func (.func 123) #[] #[.pointer (some ⟨p,0,none⟩),.pointer (some ⟨q,0,none⟩)]] w (.int .i64 (idxOf l size align)):=by
 have HL:=Lib.hid hr.1
 have HR:=Lib.hid hr
 have HS:=Lib.hid hl
 clear hr hl
 go_enter Tryz.func122,Tryz.ntmps122
 go_wp2_with fail
 go_loopw[8] (fun t wr=>∃k:Nat,k<=n/\t=.int .i64 k/\Only [] w wr/\Hid (k<=l.findIdx (fitsC size align))) (fun t _=>n-(intOf t).toNat)
 case atStart=>exact⟨0,Nat.zero_le _,rfl,Only.refl _ _,Nat.zero_le _⟩
 case round=>
  obtain⟨k,hk,rfl,ho,HK⟩:=hrel
  by_cases hlt:k<n
  ·obtain⟨ad,rfl,c1,c2,c3⟩:=(HR.out.still ho).at_ hlt
   obtain⟨s1,s2⟩:=HS.out k hlt
   have C:=Lib.hid (pred_any wr (cAt l k) p q size align ((ho.cell (World.block_lt_of_cell? w _ hp) (by simp)).trans hp) ((ho.cell (World.block_lt_of_cell? w _ hq) (by simp)).trans hq) h1 s1 s2 h4)
   have HH:=Lib.hid (findIdx_here (p:=fitsC size align) (by rw[HL.out];exact hlt) HK.out)
   have HN:=Lib.hid (findIdx_next (p:=fitsC size align) (by rw[HL.out];exact hlt) HK.out)
   generalize cAt l k=x at *
   obtain⟨xs,xp,xb⟩:=x
   unfold Cl.val at C
   dsimp only at *
   clear hp hq
   cases hb:fitsC size align ⟨xs,xp,xb⟩
   ·rw[hb] at C
    have HN2:=Lib.hid (HN.out hb)
    clear HH HN hb
    go_wp2_with (first|(go_at_call 123;refine Grew.use C.out (fun w2 ho2=>?_)))
    go_roundw
    case rel=>exact⟨k+1,by omega,by go_num,ho.trans ho2,HN2⟩
    case measure=>simp[intOf];omega
   ·rw[hb] at C
    have HE:=Lib.hid (HH.out hb)
    clear HH HN hb
    go_wp2_with (first|(go_at_call 123;refine Grew.use C.out (fun w2 ho2=>?_)))
    go_ret
    refine⟨?_,ho.trans ho2⟩
    unfold idxOf
    rw[HE.out,HL.out,if_pos hlt]
    rfl
  ·have e:k=n:=by omega
   have HE:=Lib.hid (findIdx_end (p:=fitsC size align) (by rw[HL.out];exact e) HK.out)
   go_wp2_with fail
   go_ret
   refine⟨?_,ho⟩
   unfold idxOf
   rw[if_neg HE.out]
   rfl
theorem isTable.at_ {l:List Cl} (h:isTable l):∀j,j<l.length->8<=(cAt l j).s/\(cAt l j).s<=512:=fun j hj=>⟨(h.2.2 j hj).1.1,(h.2.2 j hj).1.2.1⟩
set_option maxHeartbeats 1600000 in
theorem Class_any (w:World) (A:Option Addr) (n c:Nat) (l:List Cl) (hr:ReadsC w A n l) (hn:n<=9223372036854775807) (size align:Int):
 Grew Tryz.prog 100 #[.slice A n c,.int .i64 size,.int .i64 align] w (.tuple #[.int .i64 (clsOf l size align).1,.int .i64 (clsOf l size align).2]):=by
 have b1:=(Blk.new w 3 #[.int .i64 size]).alloc (.cells #[.int .i64 align] 3)
 have b2:=Blk.new (w.alloc (.cells #[.int .i64 size] 3)) 3 #[.int .i64 align]
 rw[World.size_alloc] at b2
 have ho:=((Only.refl [] w).alloc (.cells #[.int .i64 size] 3)).alloc (.cells #[.int .i64 align] 3)
 have hr1:=hr.still ho
 have HL:=Lib.hid hr.1
 clear hr
 by_cases ht:isTable l
 ·have HT:=Lib.hid ht
  have CV:=Lib.hid (fun W (hW:ReadsC W A n l)=>(by have:=Valid_any W A n c l hW hn;rwa[decide_eq_true HT.out] at this:Grew Tryz.prog 45 #[.slice A n c] W (.bool true)))
  clear ht
  by_cases h1:size<1
  ·have d1:decide (size<1)=true:=decide_eq_true h1
   have HE:Hid (clsOf l size align=(0,1)):=by show _=_;unfold clsOf;rw[if_neg (by simpa using HT.out),if_pos (by omega)]
   go_enter Tryz.func100,Tryz.ntmps100
   go_wp2_with fail
   generalize (w.alloc (.cells #[.int .i64 size] 3)).alloc (.cells #[.int .i64 align] 3)=w1 at *
   refine Grew.use (CV.out w1 hr1) (fun w2 ho2=>?_)
   have g1:=(b1.only ho2 (by simp)).cell_ 0 rfl
   have g2:=(b2.only ho2 (by simp)).cell_ 0 rfl
   have f1:=cell_after g1
   have f2:=cell_after g2
   go_wp2_with fail
   refine wp_region_grew (by kernel_rfl) (by kernel_rfl) ?_
   repeat (go_big_quiet_step (first|(go_at_call 59;exact Grew.g (Still.grew (power_any _ align (by omega) (by omega))))))
   refine wpQuiet_nil ?_
   rintro w3 ⟨⟨_,ho3⟩,rfl⟩
   go_wp2
   go_ret2
   exact⟨by rw[HE.out];rfl,(ho.trans ho2).trans ho3⟩
  have d1:decide (size<1)=false:=decide_eq_false h1
  by_cases h2:align<1
  ·have d2:decide (align<1)=true:=decide_eq_true h2
   have HE:Hid (clsOf l size align=(0,1)):=by show _=_;unfold clsOf;rw[if_neg (by simpa using HT.out),if_pos (by unfold isPow;omega)]
   go_enter Tryz.func100,Tryz.ntmps100
   go_wp2_with fail
   generalize (w.alloc (.cells #[.int .i64 size] 3)).alloc (.cells #[.int .i64 align] 3)=w1 at *
   refine Grew.use (CV.out w1 hr1) (fun w2 ho2=>?_)
   have g1:=(b1.only ho2 (by simp)).cell_ 0 rfl
   have g2:=(b2.only ho2 (by simp)).cell_ 0 rfl
   have f1:=cell_after g1
   have f2:=cell_after g2
   go_wp2_with fail
   refine wp_region_grew (by kernel_rfl) (by kernel_rfl) ?_
   repeat (go_big_quiet_step (first|(go_at_call 59;exact Grew.g (Still.grew (power_any _ align (by omega) (by omega))))))
   refine wpQuiet_nil ?_
   rintro w3 ⟨⟨_,ho3⟩,rfl⟩
   go_wp2
   go_ret2
   exact⟨by rw[HE.out];rfl,(ho.trans ho2).trans ho3⟩
  have d2:decide (align<1)=false:=decide_eq_false h2
  by_cases h3:256<align
  ·have d3:decide (256<align)=true:=decide_eq_true h3
   have HE:Hid (clsOf l size align=(0,1)):=by show _=_;unfold clsOf;rw[if_neg (by simpa using HT.out),if_pos (by unfold isPow;omega)]
   go_enter Tryz.func100,Tryz.ntmps100
   go_wp2_with fail
   generalize (w.alloc (.cells #[.int .i64 size] 3)).alloc (.cells #[.int .i64 align] 3)=w1 at *
   refine Grew.use (CV.out w1 hr1) (fun w2 ho2=>?_)
   have g1:=(b1.only ho2 (by simp)).cell_ 0 rfl
   have g2:=(b2.only ho2 (by simp)).cell_ 0 rfl
   have f1:=cell_after g1
   have f2:=cell_after g2
   go_wp2_with fail
   refine wp_region_grew (by kernel_rfl) (by kernel_rfl) ?_
   repeat (go_big_quiet_step (first|(go_at_call 59;exact Grew.g (Still.grew (power_any _ align (by omega) (by omega))))))
   refine wpQuiet_nil ?_
   rintro w3 ⟨⟨_,ho3⟩,rfl⟩
   go_wp2
   go_ret2
   exact⟨by rw[HE.out];rfl,(ho.trans ho2).trans ho3⟩
  have d3:decide (256<align)=false:=decide_eq_false h3
  by_cases h4:pw align=align
  ·have hpw:=isPow_iff.2 ⟨by omega,by omega,h4⟩
   have d4:(pw align==align)=true:=beq_iff_eq.2 h4
   have HE:Hid (clsOf l size align=if l.findIdx (fitsC size align)<l.length then(((l.findIdx (fitsC size align):Nat):Int),(0:Int)) else(0,4)):=by show _=_;unfold clsOf;rw[if_neg (by simpa using HT.out),if_neg (by simp only[Decidable.not_not];exact⟨by omega,hpw⟩)]
   go_enter Tryz.func100,Tryz.ntmps100
   go_wp2_with fail
   generalize (w.alloc (.cells #[.int .i64 size] 3)).alloc (.cells #[.int .i64 align] 3)=w1 at *
   refine Grew.use (CV.out w1 hr1) (fun w2 ho2=>?_)
   have g1:=(b1.only ho2 (by simp)).cell_ 0 rfl
   have g2:=(b2.only ho2 (by simp)).cell_ 0 rfl
   have f1:=cell_after g1
   have f2:=cell_after g2
   go_wp2_with fail
   refine wp_region_grew (by kernel_rfl) (by kernel_rfl) ?_
   repeat (go_big_quiet_step (first|(go_at_call 59;exact Grew.g (Still.grew (power_any _ align (by omega) (by omega))))))
   refine wpQuiet_nil ?_
   rintro w3 ⟨⟨_,ho3⟩,rfl⟩
   have hr3:=(hr1.still ho2).still ho3
   have g13:=((b1.only ho2 (by simp)).only ho3 (by simp)).cell_ 0 rfl
   have g23:=((b2.only ho2 (by simp)).only ho3 (by simp)).cell_ 0 rfl
   have I:=Lib.hid (IndexFunc_any w3 A n c l hr3 hn (fun j hj=>HT.out.at_ j (by rw[HL.out];exact hj)) w.heap.size (w.heap.size+1) size align g13 g23 (by omega) (by omega))
   clear f1 f2
   by_cases hf:l.findIdx (fitsC size align)<l.length
   ·have e:idxOf l size align=(l.findIdx (fitsC size align):Nat):=by unfold idxOf;rw[if_pos hf]
    rw[e] at I
    rw[if_pos hf] at HE
    clear e hf
    generalize l.findIdx (fitsC size align)=m at *
    go_wp2_with (first|(go_at_call 122;refine Grew.use I.out (fun w4 ho4=>?_)))
    go_ret2
    exact⟨by rw[HE.out];rfl,((ho.trans ho2).trans ho3).trans ho4⟩
   ·have e:idxOf l size align= -1:=by unfold idxOf;rw[if_neg hf]
    rw[e] at I
    rw[if_neg hf] at HE
    clear e hf
    go_wp2_with (first|(go_at_call 122;refine Grew.use I.out (fun w4 ho4=>?_)))
    go_ret2
    exact⟨by rw[HE.out];rfl,((ho.trans ho2).trans ho3).trans ho4⟩
  ·have d4:(pw align==align)=false:=beq_eq_false_iff_ne.2 h4
   have HE:Hid (clsOf l size align=(0,1)):=by show _=_;unfold clsOf;rw[if_neg (by simpa using HT.out),if_pos (by intro h;exact h4 (isPow_iff.1 h.2).2.2)]
   go_enter Tryz.func100,Tryz.ntmps100
   go_wp2_with fail
   generalize (w.alloc (.cells #[.int .i64 size] 3)).alloc (.cells #[.int .i64 align] 3)=w1 at *
   refine Grew.use (CV.out w1 hr1) (fun w2 ho2=>?_)
   have g1:=(b1.only ho2 (by simp)).cell_ 0 rfl
   have g2:=(b2.only ho2 (by simp)).cell_ 0 rfl
   have f1:=cell_after g1
   have f2:=cell_after g2
   go_wp2_with fail
   refine wp_region_grew (by kernel_rfl) (by kernel_rfl) ?_
   repeat (go_big_quiet_step (first|(go_at_call 59;exact Grew.g (Still.grew (power_any _ align (by omega) (by omega))))))
   refine wpQuiet_nil ?_
   rintro w3 ⟨⟨_,ho3⟩,rfl⟩
   go_wp2
   go_ret2
   exact⟨by rw[HE.out];rfl,(ho.trans ho2).trans ho3⟩
 ·have HE:Hid (clsOf l size align=(0,2)):=by show _=_;unfold clsOf;rw[if_pos ht]
  have CV:=Lib.hid (fun W (hW:ReadsC W A n l)=>(by have:=Valid_any W A n c l hW hn;rwa[decide_eq_false ht] at this:Grew Tryz.prog 45 #[.slice A n c] W (.bool false)))
  clear ht
  go_enter Tryz.func100,Tryz.ntmps100
  go_wp2_with fail
  generalize (w.alloc (.cells #[.int .i64 size] 3)).alloc (.cells #[.int .i64 align] 3)=w1 at *
  refine Grew.use (CV.out w1 hr1) (fun w2 ho2=>?_)
  go_wp2_with fail
  go_ret2
  exact⟨by rw[HE.out];rfl,ho.trans ho2⟩
end Go.Proofs.YtcidjimefnhacaaGreatDoor.Z
namespace Go.Proofs.YtcidjimefnhacaaGreatDoor.Z
open Go.RowKit
open Go.Shelf
attribute [local go_sem] Oper.semAt_some
def pgOk (s waste p:Int):Bool:=decide (s<=p*256)&&decide (p*256%s*waste<=p*256)
def pgs (s waste:Int):Int:=if pgOk s waste 1 then 1 else if pgOk s waste 2 then 2 else if pgOk s waste 3 then 3 else 4
theorem pgs_found {s waste:Int} (k:Nat) (hk:k<4) (hJ:∀j:Nat,j<k->pgOk s waste ((j:Int)+1)=false) (hb:pgOk s waste ((k:Int)+1)=true):pgs s waste=(k:Int)+1:=by
 have a0:0<k->pgOk s waste 1=false:=fun h=>hJ 0 h
 have a1:1<k->pgOk s waste 2=false:=fun h=>hJ 1 h
 have a2:2<k->pgOk s waste 3=false:=fun h=>hJ 2 h
 unfold pgs
 rcases (by omega:k=0\/k=1\/k=2\/k=3) with rfl|rfl|rfl|rfl
 ·rw[show pgOk s waste 1=true from hb];rfl
 ·rw[a0 (by omega),show pgOk s waste 2=true from hb];rfl
 ·rw[a0 (by omega),a1 (by omega),show pgOk s waste 3=true from hb];rfl
 ·rw[a0 (by omega),a1 (by omega),a2 (by omega)];rfl
theorem pgs_none {s waste:Int} (hJ:∀j:Nat,j<4->pgOk s waste ((j:Int)+1)=false):pgs s waste=4:=by
 have a0:pgOk s waste 1=false:=hJ 0 (by omega)
 have a1:pgOk s waste 2=false:=hJ 1 (by omega)
 have a2:pgOk s waste 3=false:=hJ 2 (by omega)
 unfold pgs
 rw[a0,a1,a2]
 rfl
set_option maxHeartbeats 800000 in
theorem pages_any (w:World) (s waste:Int) (h1:8<=s) (h2:s<=512) (h3:2<=waste) (h4:waste<=16):Still Tryz.prog 43 #[.int .i64 s,.int .i64 waste] w (.int .i64 (pgs s waste)):=by
 have hs0:(s==0)=false:=beq_eq_false_iff_ne.2 (by omega)
 go_enter Tryz.func43,Tryz.ntmps43
 go_wp2_with fail
 go_loop [7] (fun t=>∃k:Nat,k<=4/\t=.int .i64 k/\Hid (∀j:Nat,j<k->pgOk s waste ((j:Int)+1)=false)) (fun t=>5-(intOf t).toNat)
 case atStart=>exact⟨0,Nat.zero_le _,rfl,fun j hj=>absurd hj (by omega)⟩
 case round=>
  obtain⟨k,hk,rfl,HJ⟩:=hrel
  by_cases hlt:k<4
  ·have m0:0<=((k:Int)+1)*256%s:=Int.emod_nonneg _ (by omega)
   have m1:((k:Int)+1)*256%s<s:=Int.emod_lt_of_pos _ (by omega)
   have m2:0<=((k:Int)+1)*256%s*waste:=Int.mul_nonneg m0 (by omega)
   have m3:((k:Int)+1)*256%s*waste<=s*waste:=Int.mul_le_mul_of_nonneg_right (by omega) (by omega)
   have m4:s*waste<=s*16:=Int.mul_le_mul_of_nonneg_left h4 (by omega)
   have HB:Hid (pgOk s waste ((k:Int)+1)=(decide (s<=((k:Int)+1)*256)&&decide (((k:Int)+1)*256%s*waste<=((k:Int)+1)*256))):=rfl
   by_cases e1:s<=((k:Int)+1)*256
   ·have d1:decide (s<=((k:Int)+1)*256)=true:=decide_eq_true e1
    by_cases e2:((k:Int)+1)*256%s*waste<=((k:Int)+1)*256
    ·have d2:decide (((k:Int)+1)*256%s*waste<=((k:Int)+1)*256)=true:=decide_eq_true e2
     have HE:=Lib.hid (pgs_found k hlt HJ.out (by rw[HB.out,d1,d2];rfl))
     go_wp2
     go_ret
     exact⟨by rw[HE.out];rfl,rfl⟩
    ·have d2:decide (((k:Int)+1)*256%s*waste<=((k:Int)+1)*256)=false:=decide_eq_false e2
     have HN:Hid (∀j:Nat,j<k+1->pgOk s waste ((j:Int)+1)=false):=fun j hj=>by
      rcases Nat.lt_or_ge j k with h|h
      ·exact HJ.out j h
      ·have e:j=k:=by omega
       rw[e,HB.out,d2,Bool.and_false]
     go_wp2
     go_round
     case rel=>exact⟨k+1,by omega,by go_num,HN⟩
     case measure=>simp[intOf];omega
   ·have d1:decide (s<=((k:Int)+1)*256)=false:=decide_eq_false e1
    have HN:Hid (∀j:Nat,j<k+1->pgOk s waste ((j:Int)+1)=false):=fun j hj=>by
     rcases Nat.lt_or_ge j k with h|h
     ·exact HJ.out j h
     ·have e:j=k:=by omega
      rw[e,HB.out,d1,Bool.false_and]
    go_wp2
    go_round
    case rel=>exact⟨k+1,by omega,by go_num,HN⟩
    case measure=>simp[intOf];omega
  ·have HE:=Lib.hid (pgs_none (s:=s) (waste:=waste) (fun j hj=>HJ.out j (by omega)))
   go_wp2
   go_ret
   exact⟨by rw[HE.out];rfl,rfl⟩
def nextS (waste s:Int):Int:=s+if 8<pw (s/waste) then pw (s/waste) else 8
def cands (waste:Int):Nat->Int->List Int
 |0,_=>[]
 |k+1,s=>if s<=512 then s::cands waste k (nextS waste s) else []
def lastS (l:List Int):Int:=l.getLastD 0
def allS (waste:Int):List Int:=if lastS (cands waste 65 8)<512 then cands waste 65 8++[512] else cands waste 65 8
abbrev Sz:={x:Int//8<=x/\x<=512}
def KeepC (B:Nat) (W W':World):Prop:=∀v,W.cell? ⟨B,0,none⟩=some v->W'.cell? ⟨B,0,none⟩=some v
theorem pw_le (n:Int):0<=pw n/\pw n<=256:=by
 unfold pw
 omega
set_option maxRecDepth 100000 in
set_option maxHeartbeats 2000000 in
theorem cand1_in (n:Nat) (hn:1<=n) (l Bn:Nat) (waste:Int) (hw1:2<=waste) (hw2:waste<=16) (J Jx:List Sz->World->Prop)
 (hY:∀pre x W,J pre W->pre.length<66->YieldAt Fence.wide (n-1) Tryz.prog l #[.int .i64 x.1] W fun e W'=>
  (e=.returned (.bool true)/\J (pre++[x]) W'/\KeepC Bn W W')\/(e=.returned (.bool false)/\Jx (pre++[x]) W'))
 (W:World) (hBn:W.cell? ⟨Bn,0,none⟩=some (.int .i64 waste)) (h0:J [] W):
 CallsIn Fence.wide n Tryz.prog 58 #[.func (.yield l) #[] #[],.pointer (some ⟨Bn,0,none⟩)] W fun e W'=>(∃v,e=.returned v)/\
  ((∃ys:List Sz,ys.map (·.1)=allS waste/\J ys W')\/(∃pre,True/\Jx pre W')):=by
 refine callsIn_of_wp Tryz.func58 rfl trivial ?_ rfl
 simp only[Tryz.ntmps58,List.size_toArray,List.length_cons,List.length_nil,Nat.reduceAdd,Nat.reduceSub,Array.replicate_succ,Array.replicate_zero,List.push_toArray,List.append_toArray,List.nil_append,List.cons_append]
 have hw0:(waste==0)=false:=beq_eq_false_iff_ne.2 (by omega)
 gi_wp2
 gi_loopw [3,4] (fun u t wr=>∃(pre:List Sz) (f:Nat) (s:Int),u=.int .i64 (lastS (pre.map (·.1)))/\t=.int .i64 s/\cands waste 65 8=pre.map (·.1)++cands waste f s/\8<=s/\s<=1100/\pre.length+f=65/\512<s+8*f/\J pre wr/\wr.cell? ⟨Bn,0,none⟩=some (.int .i64 waste))
  (fun _ t _=>2000-(intOf t).toNat)
 case atStart=>exact⟨[],65,8,rfl,rfl,rfl,by omega,by omega,rfl,by omega,h0,hBn⟩
 case round=>
  obtain⟨pre,f,s,rfl,rfl,hc,hs1,hs2,hlen,hf,hJ,hB⟩:=hrel
  by_cases hlt:s<=512
  ·obtain⟨f',rfl⟩:∃f',f=f'+1:=⟨f-1,by omega⟩
   obtain⟨x,hx⟩:∃x:Sz,x.1=s:=⟨⟨s,hs1,hlt⟩,rfl⟩
   have HC:Hid (cands waste 65 8=(pre++[x]).map (·.1)++cands waste f' (nextS waste s)):=by
    show _=_
    rw[hc]
    simp only[cands,if_pos hlt,List.map_append,List.map_cons,List.map_nil,List.append_assoc,List.cons_append,List.nil_append,hx]
   have HL:Hid (lastS ((pre++[x]).map (·.1))=s):=by
    show _=_
    simp[lastS,hx]
   obtain⟨p1,p2⟩:=pw_le (s/waste)
   have q1:0<=s/waste:=Int.ediv_nonneg (by omega) (by omega)
   have q2:s/waste<=256:=by
    have h1:s/waste*waste<=s:=Int.ediv_mul_le _ (by omega)
    have h2:s/waste*2<=s/waste*waste:=Int.mul_le_mul_of_nonneg_left hw1 q1
    omega
   obtain⟨fn,tmps,assign,body,hy,hR⟩:=hY pre x wr hJ (by omega)
   rw[hx] at hy
   clear hc
   gi_wp2
   refine hR.mono ?_
   rintro e W3 (⟨rfl,hJ3,hk3⟩|⟨rfl,hJx3⟩)
   ·have hB3:=hk3 _ hB
    clear hk3 hB hR hy
    gi_wp2_with (refine⟨trivial,?_⟩;gi_at_call 59;refine(callsIn_wide.2 (power_any W3 (s/waste) q1 q2)).mono ?_;rintro e w' ⟨rfl,rfl⟩)
    have hnx:nextS waste s=s+if 8<pw (s/waste) then pw (s/waste) else 8:=rfl
    go_roundw
    case rel=>
     rw[<-hnx]
     exact⟨pre++[x],f',nextS waste s,by rw[HL.out],rfl,HC.out,by rw[hnx];omega,by rw[hnx];omega,by simp;omega,by rw[hnx];omega,hJ3,hB3⟩
    case measure=>simp[intOf];omega
   ·gi_wp2
    refine bodyPost_ret (results_none rfl _ _ _) rfl ?_
    exact⟨⟨_,rfl⟩,.inr ⟨_,trivial,hJx3⟩⟩
  ·have he:cands waste f s=[]:=by cases f<;>simp[cands,hlt]
   rw[he,List.append_nil] at hc
   by_cases hx:lastS (pre.map (·.1))<512
   ·have HA:Hid (allS waste=pre.map (·.1)++[512]):=by show _=_;unfold allS;rw[hc,if_pos hx]
    obtain⟨x,hx2⟩:∃x:Sz,x.1=512:=⟨⟨512,by omega,by omega⟩,rfl⟩
    obtain⟨fn,tmps,assign,body,hy,hR⟩:=hY pre x wr hJ (by omega)
    rw[hx2] at hy
    clear hc he
    generalize lastS (pre.map (·.1))=la at *
    gi_wp2
    refine hR.mono ?_
    rintro e W3 (⟨rfl,hJ3,hk3⟩|⟨rfl,hJx3⟩)
    ·gi_wp2
     go_end0
     exact⟨⟨_,rfl⟩,.inl ⟨pre++[x],by rw[HA.out];simp[hx2],hJ3⟩⟩
    ·gi_wp2
     go_end0
     exact⟨⟨_,rfl⟩,.inr ⟨_,trivial,hJx3⟩⟩
   ·have HA:Hid (allS waste=pre.map (·.1)):=by show _=_;unfold allS;rw[hc,if_neg hx]
    clear hc he
    generalize hla:lastS (pre.map (·.1))=la at *
    gi_wp2
    go_end0
    exact⟨⟨_,rfl⟩,.inl ⟨pre,HA.out.symm,hJ⟩⟩
set_option maxHeartbeats 800000 in
theorem candidates_any (w:World) (waste:Int):Calls Tryz.prog 42 #[.int .i64 waste] w fun e w'=>e=.returned (.func (.func 58) #[] #[.pointer (some ⟨w.heap.size,0,none⟩)])/\w'=w.alloc (.cells #[.int .i64 waste] 3):=by
 go_enter Tryz.func42,Tryz.ntmps42
 go_wp2
 go_ret
 exact⟨rfl,rfl⟩
theorem cand_stops (n:Nat) (hn:1<=n) (Bn:Nat) (waste:Int) (hw1:2<=waste) (hw2:waste<=16) (w:World) (hlt:Bn<w.heap.size) (hc:w.cell? ⟨Bn,0,none⟩=some (.int .i64 waste)):
 SeqStopsK Fence.wide n Tryz.prog 58 #[.pointer (some ⟨Bn,0,none⟩)] (fun x:Sz=>#[Value.int .i64 x.1]) (KeepC Bn) (fun ys=>ys.map (·.1)=allS waste) (fun _=>True) 66 w:=fun l J Jx W hW _ _ hY h0=>
 cand1_in n hn l Bn waste hw1 hw2 J Jx hY W ((hW.cell (p:=⟨Bn,0,none⟩) hlt).trans hc) h0
end Go.Proofs.YtcidjimefnhacaaGreatDoor.Z
namespace Go.Proofs.YtcidjimefnhacaaGreatDoor.Z
open Go.RowKit
def cellsC (l:List Cl):List Value:=l.flatMap Cl.cells
theorem cellsC_length (l:List Cl):(cellsC l).length=l.length*3:=by
 induction l with
 |nil=>rfl
 |cons x l ih=>
  have:cellsC (x::l)=x.cells++cellsC l:=by simp[cellsC]
  rw[this,List.length_append,ih,List.length_cons]
  simp[Cl.cells]
  omega
theorem cellsC_at (l:List Cl) (j:Nat) (hj:j<l.length):(cellsC l)[j*3]? =some (.int .i64 (cAt l j).s)/\(cellsC l)[j*3+1]? =some (.int .i64 (cAt l j).p)/\(cellsC l)[j*3+2]? =some (.int .i64 (cAt l j).b):=by
 induction l generalizing j with
 |nil=>cases hj
 |cons x l ih=>
  have e:cellsC (x::l)=.int .i64 x.s:: .int .i64 x.p:: .int .i64 x.b::cellsC l:=by simp[cellsC,Cl.cells]
  rw[e]
  cases j with
  |zero=>simp[cAt]
  |succ j=>
   have:=ih j (by simpa using hj)
   rw[show(j+1)*3=j*3+1+1+1 by omega]
   simpa[cAt] using this
theorem cellsC_append (l m:List Cl):cellsC (l++m)=cellsC l++cellsC m:=by simp[cellsC]
theorem own_reads {w:World} {base:Nat} {v:Value} {l:List Cl} {n:Nat} (hn:n=l.length) (h:w.ownsRow base 101 3 v n (cellsC l)) (hI:∀j,j<n->I64 (cAt l j).s/\I64 (cAt l j).p/\I64 (cAt l j).b):
 ∃A c,v=.slice A n c/\ReadsC w A n l/\∀ad,A=some ad->base<=ad.block:=by
 rcases h.2 with ⟨rfl,h0⟩|⟨g,cap,cur,rfl,hb,hh,h1,h2,h3,ht⟩
 ·exact⟨none,0,by rw[h0],⟨hn.symm,hI,fun h=>absurd h (by omega)⟩,by simp⟩
 ·refine⟨_,cap,rfl,⟨hn.symm,hI,fun _=>⟨⟨g,0,none⟩,rfl,fun j hj=>?_⟩⟩,by rintro ad e;injection e with e;subst e;exact hb⟩
  have hat:∀i u,i<n*3->(cellsC l)[i]? =some u->w.cell? ⟨g,i,none⟩=some u:=fun i u hi hu=>by
   rw[<-ht,List.getElem?_take,if_pos hi,Array.getElem?_toList] at hu
   rw[cell_of_row w g i cur _ _ hh]
   exact hu
  obtain⟨a1,a2,a3⟩:=cellsC_at l j (by omega)
  have e:(⟨g,0,none⟩:Addr).add (j*3)=⟨g,j*3,none⟩:=by
   unfold Addr.add
   split
   ·rename_i h0;rw[h0]
   ·simp
  rw[e]
  exact⟨hat (j*3) _ (by omega) a1,hat (j*3+1) _ (by omega) a2,hat (j*3+2) _ (by omega) a3⟩
theorem pgs_range (s waste:Int):1<=pgs s waste/\pgs s waste<=4:=by
 unfold pgs
 split
 ·omega
 ·split
  ·omega
  ·split<;>omega
end Go.Proofs.YtcidjimefnhacaaGreatDoor.Z
