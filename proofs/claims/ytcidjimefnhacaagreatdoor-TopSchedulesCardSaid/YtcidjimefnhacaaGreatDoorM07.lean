/- TopSchedules, a part of the proof: SpB, SpC, SpD, SpE, SpF, SpG, SpH, SpI, LR. -/
import Derived.Test.YtcidjimefnhacaaGreatDoorM06
import Derived.Deep.AppendLies
import Derived.Maps.AppendAt
set_option linter.unusedVariables false
set_option linter.unusedSimpArgs false
namespace Go.Proofs.YtcidjimefnhacaaGreatDoor
open Go.RowKit
set_option maxHeartbeats 800000 in
theorem object_at {w p q cap s} (h:SpanAt w p q cap s) (a:Int) (ha0: -9223372036854775808<=a) (ha1:a<=9223372036854775807):Quiet Tryz.prog 206 #[.pointer (some ⟨p,0,none⟩),.int .i64 a] w (.tuple #[.int .i64 (s.obj a).1,.int .i64 (s.obj a).2]):=by
 obtain⟨r1,r2,r3⟩:=s.idx_range h.good a
 have C:=Index_at h a ha0 ha1
 obtain⟨i,j,hij⟩:∃i j,s.idx a=(i,j):=⟨_,_,rfl⟩
 rw[hij] at r1 r2 r3 C
 dsimp only at r1 r2 r3 C
 rcases r3 with rfl|rfl
 ·by_cases hy:s.start*256+i*s.size=a
  ·rw[Sp.obj_yes (by rw[hij]) (by rw[hij];exact hy),hij]
   have d1:((s.start*256+i*s.size) != a)=false:=bne_eq_false_iff_eq.2 hy
   clear hij hy
   have A:=fun n=>addr_at (h.drewN n) i r1 (by omega)
   have CH:=Lib.hid C
   have AH:=Lib.hid A
   clear C A
   go_enter Tryz.func206,Tryz.ntmps206
   go_wp2_with (first|(go_at_call 168;refine Quiet.use CH.out (fun n=>?_))|(go_at_call 182;refine Quiet.use (AH.out _) (fun n=>?_)))
   go_ret2
   exact⟨rfl,(by repeat (first|exact Dr.refl _|refine Dr.drewN ?_ _|refine Dr.drew ?_))⟩
  ·rw[Sp.obj_no (by rw[hij]) (by rw[hij];exact hy)]
   have d1:((s.start*256+i*s.size) != a)=true:=bne_iff_ne.2 hy
   clear hij hy
   have A:=fun n=>addr_at (h.drewN n) i r1 (by omega)
   have CH:=Lib.hid C
   have AH:=Lib.hid A
   clear C A
   go_enter Tryz.func206,Tryz.ntmps206
   go_wp2_with (first|(go_at_call 168;refine Quiet.use CH.out (fun n=>?_))|(go_at_call 182;refine Quiet.use (AH.out _) (fun n=>?_)))
   go_ret2
   exact⟨rfl,(by repeat (first|exact Dr.refl _|refine Dr.drewN ?_ _|refine Dr.drew ?_))⟩
 ·rw[Sp.obj_out (by rw[hij];simp),hij]
  clear hij
  have CH:=Lib.hid C
  clear C
  go_enter Tryz.func206,Tryz.ntmps206
  go_wp2_with (first|(go_at_call 168;refine Quiet.use CH.out (fun n=>?_)))
  go_ret2
  exact⟨rfl,(by repeat (first|exact Dr.refl _|refine Dr.drewN ?_ _|refine Dr.drew ?_))⟩
def Sp.tkn (s:Sp) (a:Int):Bool×Int:=if(s.obj a).2=0 then(s.st.getD (s.obj a).1.toNat 0==1,0) else(false,(s.obj a).2)
set_option maxHeartbeats 800000 in
theorem IsTaken_at {w p q cap s} (h:SpanAt w p q cap s) (a:Int) (ha0: -9223372036854775808<=a) (ha1:a<=9223372036854775807):Quiet Tryz.prog 171 #[.pointer (some ⟨p,0,none⟩),.int .i64 a] w (.tuple #[.bool (s.tkn a).1,.int .i64 (s.tkn a).2]):=by
 obtain⟨r1,r2,r3⟩:=s.obj_range h.good a
 have C:=object_at h a ha0 ha1
 obtain⟨i,j,hij⟩:∃i j,s.obj a=(i,j):=⟨_,_,rfl⟩
 rw[hij] at r1 r2 r3 C
 dsimp only at r1 r2 r3 C
 have hl:=h.good.len
 have h4:=h.c4
 rcases r3 with rfl|rfl
 ·rw[show s.tkn a=(s.st.getD i.toNat 0==1,0) by unfold Sp.tkn;rw[hij];rfl]
  clear hij
  obtain⟨k,rfl⟩:=Int.eq_ofNat_of_zero_le r1
  have hk:=h.at_ k (by omega)
  rw[Int.toNat_natCast]
  have CH:=Lib.hid C
  clear C h
  go_enter Tryz.func171,Tryz.ntmps171
  go_wp2_with (first|(go_at_call 206;refine Quiet.use CH.out (fun n=>?_)))
  go_ret2
  exact⟨by simp,(by repeat (first|exact Dr.refl _|refine Dr.drewN ?_ _|refine Dr.drew ?_))⟩
 ·rw[show s.tkn a=(false,8) by unfold Sp.tkn;rw[hij];rfl]
  clear hij
  have CH:=Lib.hid C
  clear C h
  go_enter Tryz.func171,Tryz.ntmps171
  go_wp2_with (first|(go_at_call 206;refine Quiet.use CH.out (fun n=>?_)))
  go_ret2
  exact⟨rfl,(by repeat (first|exact Dr.refl _|refine Dr.drewN ?_ _|refine Dr.drew ?_))⟩
set_option maxHeartbeats 400000 in
theorem Objects_at {w p q cap s} (h:SpanAt w p q cap s):Still Tryz.prog 152 #[.pointer (some ⟨p,0,none⟩)] w (.int .i64 s.st.length):=by
 have h4:=h.c4
 go_enter Tryz.func152,Tryz.ntmps152
 go_wp2_with (first|(go_at_call 179;refine Still.use (made_at h) ?_))
 go_ret
 exact⟨rfl,rfl⟩
set_option maxHeartbeats 400000 in
theorem Run_at {w p q cap s} (h:SpanAt w p q cap s):Grew Tryz.prog 209 #[.pointer (some ⟨p,0,none⟩)] w (.agg #[.int .i64 s.start,.int .i64 s.pages]):=by
 go_enter Tryz.func209,Tryz.ntmps209
 go_wp2_with (first|(go_at_call 179;refine Still.use (made_at (h.alloc _)) ?_))
 have hn:=Blk.new w 243 #[.int .i64 0,.int .i64 0]
 have ho:=(Only.refl [] w).alloc (.cells #[.int .i64 0,.int .i64 0] 243)
 have h':=h.alloc (.cells #[.int .i64 0,.int .i64 0] 243)
 generalize w.alloc (.cells #[.int .i64 0,.int .i64 0] 243)=w1 at *
 have f0:=h'.c0
 have f2:=h'.c2
 have n0:=hn.cell_ 0 rfl
 have n1:=hn.cell_ 1 rfl
 have z0:=hn.frozen 0
 have z1:=hn.frozen 1
 go_region
 have hn2:=((hn.set_ 0 (.int .i64 s.start)).set_ 1 (.int .i64 s.pages)).drew
 have ho2:=((ho.setCell (p:=⟨w.heap.size,0,none⟩) (.inr (Nat.le_refl _)) (.int .i64 s.start)).setCell (p:=⟨w.heap.size,1,none⟩) (.inr (Nat.le_refl _)) (.int .i64 s.pages)).drew
 generalize ((w1.setCell ⟨w.heap.size,0,none⟩ (.int .i64 s.start)).setCell ⟨w.heap.size,1,none⟩ (.int .i64 s.pages)).drew=w2 at *
 have r0:=hn2.cell_ 0 rfl
 have r1:=hn2.cell_ 1 rfl
 clear f0 f2 n0 n1 z0 z1
 go_wp2
 exact bodyPost_ret (v:=.agg #[.int .i64 s.start,.int .i64 s.pages]) (by simp[results,Tryz.results209,go_sem,r0,r1]) rfl ⟨rfl,ho2⟩
def ReadsI (w:World) (A:Option Addr) (n:Nat) (l:List Int):Prop:=l.length=n/\(0<n->∃ad,A=some ad/\∀j,j<n->w.cell? (ad.add j)=some (.int .i64 (l.getD j 0)))
theorem add_plain (g j:Nat):(⟨g,0,none⟩:Addr).add j=⟨g,j,none⟩:=by unfold Addr.add;split<;>simp_all
theorem SpanAt.reads {w p q cap s} (h:SpanAt w p q cap s):ReadsI w (some ⟨q,0,none⟩) s.st.length s.st:=⟨rfl,fun _=>⟨_,rfl,fun j hj=>by rw[add_plain];exact h.at_ j hj⟩⟩
set_option maxHeartbeats 400000 in
theorem sindex_any (w:World) (A:Option Addr) (n cap:Nat) (l:List Int) (v:Int) (h:ReadsI w A n l) (hn:n<=4611686018427387904):Still Tryz.prog 180 #[.slice A n cap,.int .i64 v] w (.int .i64 (idxOf l v)):=by
 obtain⟨hl,hc⟩:=h
 have HL:=Lib.hid hl
 clear hl
 go_enter Tryz.func180,Tryz.ntmps180
 go_wp2
 go_loop [8] (fun t=>∃k:Nat,k<=n/\t=.int .i64 k/\Hid (∀j,j<k->l.getD j 0≠v)) (fun t=>n-(intOf t).toNat)
 case atStart=>exact⟨0,Nat.zero_le _,rfl,fun j hj=>absurd hj (by omega)⟩
 case round=>
  obtain⟨k,hk,rfl,HN⟩:=hrel
  by_cases hlt:k<n
  ·obtain⟨ad,rfl,hcc⟩:=hc (by omega)
   have hx:=hcc k hlt
   clear hcc hc
   by_cases hv:l.getD k 0=v
   ·have HI:=Lib.hid (idxOf_at (by rw[HL.out];exact hlt) hv HN.out)
    have d1:(v==l.getD k 0)=true:=by rw[hv];simp
    clear hv
    generalize l.getD k 0=x at *
    go_wp2
    go_ret
    exact⟨by rw[HI.out];rfl,rfl⟩
   ·have HN':Hid (∀j,j<k+1->l.getD j 0≠v):=fun j hj=>by
     rcases Nat.lt_or_ge j k with h1|h1
     ·exact HN.out j h1
     ·rw[show j=k by omega];exact hv
    have d1:(v==l.getD k 0)=false:=beq_eq_false_iff_ne.2 (fun e=>hv e.symm)
    clear hv
    generalize l.getD k 0=x at hx d1
    go_wp2
    go_round
    case rel=>exact⟨k+1,by omega,by go_num,HN'⟩
    case measure=>simp[intOf];omega
  ·have HI:=Lib.hid (idxOf_none (l:=l) (v:=v) (fun j hj=>HN.out j (by rw[HL.out] at hj;omega)))
   clear hc
   go_wp2
   go_ret
   exact⟨by rw[HI.out];rfl,rfl⟩
theorem SpanAt.stored {w p q cap s} (h:SpanAt w p q cap s) {i:Nat} (hi:i<s.st.length) {v:Int} (hv:v=0\/v=1) {m:Int} (hm:m=s.many+(v-s.st.getD i 0)):
 SpanAt ((w.setCell ⟨p,5,none⟩ (.int .i64 m)).drew.setCell ⟨q,i,none⟩ (.int .i64 v)) p q cap (s.put i v):=by
 obtain⟨cs,hb,hc⟩:=h.row
 have hne:=h.ne
 subst hm
 refine⟨?_,⟨cs.setIfInBounds i (.int .i64 v),?_,?_⟩,h.good.put hi hv⟩
 ·have:=(((h.head.set_ 5 (.int .i64 (s.many+(v-s.st.getD i 0)))).drew).far (p:=⟨q,i,none⟩) hne (.int .i64 v))
  simpa[Sp.put] using this
 ·exact((hb.far (p:=⟨p,5,none⟩) (Ne.symm hne) _).drew).set_ i _
 ·intro j hj
  have hj':j<s.st.length:=by simpa[Sp.put] using hj
  have hcj:=hc j hj'
  by_cases e:i=j
  ·subst e
   have hsz:i<cs.size:=by rcases Nat.lt_or_ge i cs.size with h1|h1;exact h1;rw[Array.getElem?_eq_none h1] at hcj;cases hcj
   simp[Sp.put,Array.getElem?_setIfInBounds,hsz,hj',List.getD_eq_getElem?_getD]
  ·simp only[Sp.put,Array.getElem?_setIfInBounds,e,if_false,List.getD_eq_getElem?_getD,List.getElem?_set]
   simpa[List.getD_eq_getElem?_getD] using hcj
set_option maxHeartbeats 800000 in
theorem mark_at {w p q cap s} (h:SpanAt w p q cap s) (r c:Nat) (i:Nat) (hi:i<s.st.length) (v:Int) (hv:v=0\/v=1) (hr:w.cell? ⟨r,0,none⟩=some (.int .i64 i)) (hrp:r≠p) (hrq:r≠q):
 Calls Tryz.prog 181 #[.pointer (some ⟨p,0,none⟩),.int .i64 v,.slice (some ⟨r,0,none⟩) 1 c] w fun e w'=>e=.returned (.tuple #[])/\SpanAt w' p q cap (s.put i v)/\Only [p,q] w w':=by
 have h4:=h.c4
 have h5:=h.c5
 have hx:=h.at_ i hi
 have hl:=h.good.len
 have hx1:0<=s.st.getD i 0/\s.st.getD i 0<=1:=by have:=h.good.bits i hi;omega
 obtain⟨hx2,hx3⟩:=hx1
 obtain⟨hm1,hm2⟩:=h.good.many
 obtain⟨hv1,hv2⟩:0<=v/\v<=1:=by omega
 obtain⟨cs,hb,hc⟩:=h.row
 have fz:=h.head.frozen 5
 have fq:=hb.frozen i
 have hne:=h.ne
 have hne':=Ne.symm hne
 have FIN:=Lib.hid (h.stored hi hv rfl)
 have HV:=Lib.hid hv
 clear hv hc h
 generalize s.st.getD i 0=x at *
 generalize s.st.length=n at *
 go_enter Tryz.func181,Tryz.ntmps181
 go_wp2
 refine wp_loop_rounds 2 ?_
 rw[rounds_succ]
 go_wp2
 go_region
 go_wp2
 rw[rounds_succ]
 go_wp2
 go_end0
 refine⟨rfl,FIN.out,?_⟩
 exact((Only.refl [p,q] w).setCell (p:=⟨p,5,none⟩) (.inl (by simp)) _).drew.setCell (p:=⟨q,i,none⟩) (.inl (by simp)) _
theorem Sp.take_none {s:Sp} (h:idxOf s.st 0= -1):s.take=((0,6),s):=by unfold Sp.take;rw[h];rfl
theorem Sp.take_some {s:Sp} {k:Nat} (h:idxOf s.st 0=k):s.take=((s.start*256+k*s.size,0),s.put k 1):=by
 unfold Sp.take
 rw[h,if_neg (by omega)]
 rfl
set_option maxHeartbeats 800000 in
theorem Take_at {w p q cap s} (h:SpanAt w p q cap s):
 Calls Tryz.prog 154 #[.pointer (some ⟨p,0,none⟩)] w fun e w'=>e=.returned (.tuple #[.int .i64 s.take.1.1,.int .i64 s.take.1.2])/\SpanAt w' p q cap s.take.2/\Only [p,q] w w':=by
 have hl:=h.good.len
 have C:=sindex_any w (some ⟨q,0,none⟩) s.st.length cap s.st 0 h.reads (by omega)
 have h4:=h.c4
 rcases idxOf_cases s.st 0 with ⟨hi,_⟩|⟨k,hi,hk,hv,_⟩
 ·rw[Sp.take_none hi]
  rw[hi] at C
  have CH:=Lib.hid C
  clear C hi
  go_enter Tryz.func154,Tryz.ntmps154
  go_wp2_with (first|(go_at_call 179;refine Still.use (made_at h) ?_)|(go_at_call 180;refine Still.use CH.out ?_))
  go_ret2
  exact⟨rfl,h,Only.refl _ _⟩
 ·rw[Sp.take_some hi]
  rw[hi] at C
  have CH:=Lib.hid C
  have hpq:=h.ltp
  have hqq:=h.ltq
  have HM:=Lib.hid (mark_at (h.alloc (.cells #[.int .i64 k] 3)) w.heap.size 1 k hk 1 (.inr rfl) ((Blk.new w 3 #[.int .i64 k]).cell_ 0 rfl) (by omega) (by omega))
  clear C hi hv
  go_enter Tryz.func154,Tryz.ntmps154
  go_wp2_with (first|(go_at_call 179;refine Still.use (made_at h) ?_)|(go_at_call 180;refine Still.use CH.out ?_)|(go_at_call 181;refine HM.out.mono ?_;rintro e w' ⟨rfl,h',ho⟩)|(go_at_call 182;refine Quiet.use (addr_at h' k (by omega) (by simp[Sp.put];omega)) (fun n=>?_)))
  go_ret2
  exact⟨rfl,h'.drewN _,(((Only.refl [p,q] w).alloc _).trans ho).drewN _⟩
theorem Sp.free_out {s:Sp} {a i j:Int} (h:s.obj a=(i,j)) (hj:j≠0):s.free a=(j,s):=by unfold Sp.free;rw[h,if_pos hj]
theorem Sp.free_twice {s:Sp} {a i:Int} (h:s.obj a=(i,0)) (hv:s.st.getD i.toNat 0=0):s.free a=(9,s):=by unfold Sp.free;rw[h,if_neg (by simp),if_pos hv]
theorem Sp.free_yes {s:Sp} {a i:Int} (h:s.obj a=(i,0)) (hv:s.st.getD i.toNat 0≠0):s.free a=(0,s.put i.toNat 0):=by unfold Sp.free;rw[h,if_neg (by simp),if_neg hv]
set_option maxHeartbeats 800000 in
theorem Put_at {w p q cap s} (h:SpanAt w p q cap s) (a:Int) (ha0: -9223372036854775808<=a) (ha1:a<=9223372036854775807):
 Calls Tryz.prog 173 #[.pointer (some ⟨p,0,none⟩),.int .i64 a] w fun e w'=>e=.returned (.int .i64 (s.free a).1)/\SpanAt w' p q cap (s.free a).2/\Only [p,q] w w':=by
 obtain⟨r1,r2,r3⟩:=s.obj_range h.good a
 have C:=object_at h a ha0 ha1
 obtain⟨i,j,hij⟩:∃i j,s.obj a=(i,j):=⟨_,_,rfl⟩
 rw[hij] at r1 r2 r3 C
 dsimp only at r1 r2 r3 C
 have hl:=h.good.len
 have h4:=h.c4
 have hpq:=h.ltp
 have hqq:=h.ltq
 rcases r3 with rfl|rfl
 ·obtain⟨k,rfl⟩:=Int.eq_ofNat_of_zero_le r1
  have hk:=h.at_ k (by omega)
  by_cases hv:s.st.getD k 0=0
  ·rw[Sp.free_twice hij (by rw[Int.toNat_natCast];exact hv)]
   rw[hv] at hk
   have CH:=Lib.hid C
   clear C hij hv
   go_enter Tryz.func173,Tryz.ntmps173
   go_wp2_with (first|(go_at_call 206;refine Quiet.use CH.out (fun n=>?_)))
   go_ret
   exact⟨rfl,h.drewN _,(Only.refl _ _).drewN _⟩
  ·rw[Sp.free_yes hij (by rw[Int.toNat_natCast];exact hv),Int.toNat_natCast]
   have HM:=Lib.hid (fun n=>mark_at ((h.drewN n).alloc (.cells #[.int .i64 k] 3)) (w.drewN n).heap.size 1 k (by omega) 0 (.inl rfl) ((Blk.new (w.drewN n) 3 #[.int .i64 k]).cell_ 0 rfl) (by have:(w.drewN n).heap.size=w.heap.size:=rfl;omega) (by have:(w.drewN n).heap.size=w.heap.size:=rfl;omega))
   have d1:(s.st.getD k 0==0)=false:=beq_eq_false_iff_ne.2 hv
   have CH:=Lib.hid C
   clear C hij hv
   generalize s.st.getD k 0=x at hk d1
   go_enter Tryz.func173,Tryz.ntmps173
   go_wp2_with (first|(go_at_call 206;refine Quiet.use CH.out (fun n=>?_))|(go_at_call 181;refine(HM.out _).mono ?_;rintro e w' ⟨rfl,h',ho⟩))
   go_ret
   exact⟨rfl,h',(((Only.refl [p,q] w).drewN _).alloc _).trans ho⟩
 ·rw[Sp.free_out hij (by simp)]
  have CH:=Lib.hid C
  clear C hij
  go_enter Tryz.func173,Tryz.ntmps173
  go_wp2_with (first|(go_at_call 206;refine Quiet.use CH.out (fun n=>?_)))
  go_ret
  exact⟨rfl,h.drewN _,(Only.refl _ _).drewN _⟩
def oneP (size pages batch:Int):Prop:=8<=size/\size<=512/\size%8=0/\1<=pages/\pages<=4/\size<=pages*256/\1<=batch/\batch<=32
instance (size pages batch:Int):Decidable (oneP size pages batch):=by unfold oneP;infer_instance
set_option maxHeartbeats 800000 in
theorem one_any (w:World) (size pages batch:Int):Grew Tryz.prog 60 #[.agg #[.int .i64 size,.int .i64 pages,.int .i64 batch]] w (.bool (decide (oneP size pages batch))):=by
 go_enter Tryz.func60,Tryz.ntmps60
 go_wp2
 all_goals
  go_ret
  refine⟨?_,(Only.refl [] w).alloc _⟩
  show Ending.returned (Value.bool _)=_
  refine ret_bool ?_
  first
   |(symm;rw[decide_eq_false_iff_not];unfold oneP;omega)
   |(rw[decide_eq_decide];unfold oneP;omega)
set_option maxHeartbeats 800000 in
theorem objects_any (w:World) (size pages batch:Int) (h:oneP size pages batch):Grew Tryz.prog 44 #[.agg #[.int .i64 size,.int .i64 pages,.int .i64 batch]] w (.int .i64 (pages*256/size)):=by
 obtain⟨h1,h2,h3,h4,h5,h6,h7,h8⟩:=h
 clear h3
 have hs0:(size==0)=false:=beq_eq_false_iff_ne.2 (by omega)
 go_enter Tryz.func44,Tryz.ntmps44
 go_wp2
 go_ret
 exact⟨rfl,(Only.refl [] w).alloc _⟩
set_option maxHeartbeats 800000 in
theorem Objects_any (w:World) (size pages batch:Int):Grew Tryz.prog 75 #[.agg #[.int .i64 size,.int .i64 pages,.int .i64 batch]] w (.tuple #[.int .i64 (if oneP size pages batch then pages*256/size else 0),.int .i64 (if oneP size pages batch then 0 else 1)]):=by
 by_cases hone:oneP size pages batch
 ·rw[if_pos hone,if_pos hone]
  have C:=one_any (w.alloc (.cells #[.int .i64 size,.int .i64 pages,.int .i64 batch] 101)) size pages batch
  rw[decide_eq_true hone] at C
  have CH:=Lib.hid C
  have HO:=Lib.hid hone
  clear C hone
  go_enter Tryz.func75,Tryz.ntmps75
  go_wp2_with (first|(go_at_call 60;refine Grew.use CH.out (fun w1 ho1=>?_);have b1:=(Blk.new w 101 #[.int .i64 size,.int .i64 pages,.int .i64 batch]).only ho1 (by simp);have b10:=b1.cell_ 0 rfl;have b11:=b1.cell_ 1 rfl;have b12:=b1.cell_ 2 rfl)|(go_at_call 44;refine Grew.use (objects_any w1 size pages batch HO.out) (fun w2 ho2=>?_)))
  go_ret2
  exact⟨rfl,(((Only.refl [] w).alloc _).trans ho1).trans ho2⟩
 ·rw[if_neg hone,if_neg hone]
  have C:=one_any (w.alloc (.cells #[.int .i64 size,.int .i64 pages,.int .i64 batch] 101)) size pages batch
  rw[decide_eq_false hone] at C
  have CH:=Lib.hid C
  clear C hone
  go_enter Tryz.func75,Tryz.ntmps75
  go_wp2_with (first|(go_at_call 60;refine Grew.use CH.out (fun w1 ho1=>?_)))
  go_ret2
  exact⟨rfl,((Only.refl [] w).alloc _).trans ho1⟩
theorem info_int:(Tryz.prog.info? 3).map (fun i=>(i.zero,i.size,i.bytes))=some (some (.int .i64 0),1,8):=by kernel_rfl
def Sp.fits (start size pages batch:Int):Prop:=oneP size pages batch/\0<=start/\start<=1024-pages
instance (start size pages batch:Int):Decidable (Sp.fits start size pages batch):=by unfold Sp.fits;infer_instance
def Sp.fresh (start size pages batch:Int):Sp:=⟨start,size,pages,batch,0,List.replicate (pages*256/size).toNat 0⟩
theorem Sp.fresh_good {start size pages batch:Int} (h:Sp.fits start size pages batch):(Sp.fresh start size pages batch).Good:=by
 obtain⟨⟨h1,h2,h3,h4,h5,h6,h7,h8⟩,h9,h10⟩:=h
 have hq0:0<=pages*256/size:=Int.ediv_nonneg (by omega) (by omega)
 have hq1:pages*256/size*size<=pages*256:=Int.ediv_mul_le _ (by omega)
 have hq2:pages*256<(pages*256/size+1)*size:=Int.lt_ediv_add_one_mul_self _ (by omega)
 have hq3:1<=pages*256/size:=by
  rcases Int.lt_or_le (pages*256/size) 1 with h|h
  ·have e:pages*256/size=0:=by omega
   rw[e] at hq2
   omega
  ·exact h
 refine⟨h1,h2,h4,h5,h9,h10,?_,?_,?_,?_,?_⟩
 ·simp[Sp.fresh];omega
 ·simp only[Sp.fresh,List.length_replicate];rw[Int.toNat_of_nonneg hq0];exact hq1
 ·simp only[Sp.fresh,List.length_replicate];rw[Int.toNat_of_nonneg hq0];exact hq2
 ·intro i hi
  left
  simp only[Sp.fresh,List.length_replicate] at hi
  simp only[Sp.fresh,List.getD_eq_getElem?_getD,List.getElem?_replicate]
  split<;>rfl
 ·simp[Sp.fresh]
theorem made_row (n:Nat):∀i,i<n->(madeCells #[Value.int .i64 0] n)[i]? =some (.int .i64 ((List.replicate n (0:Int)).getD i 0)):=by
 intro i hi
 have h:=congrArg (fun l=>l[i]?) (toList_madeCells_one (.int .i64 0) n)
 simp only[Array.getElem?_toList] at h
 rw[h]
 simp[List.getElem?_replicate,hi,List.getD_eq_getElem?_getD]
set_option maxHeartbeats 800000 in
theorem New_any (w:World) (start size pages batch:Int) (h0: -9223372036854775808<=start) (h1:start<=9223372036854775807):
 Calls Tryz.prog 136 #[.int .i64 start,.agg #[.int .i64 size,.int .i64 pages,.int .i64 batch]] w fun e w'=>
  (Sp.fits start size pages batch->∃p q cap,e=.returned (.tuple #[.pointer (some ⟨p,0,none⟩),.int .i64 0])/\SpanAt w' p q cap (Sp.fresh start size pages batch)/\w.heap.size<=p/\w.heap.size<=q)/\
  (¬Sp.fits start size pages batch->e=.returned (.tuple #[.pointer none,.int .i64 1]))/\Only [] w w':=by
 by_cases hone:oneP size pages batch
 ·have C:=Objects_any (w.alloc (.cells #[.int .i64 size,.int .i64 pages,.int .i64 batch] 101)) size pages batch
  rw[if_pos hone,if_pos hone] at C
  have hp1:=hone.2.2.2.1
  have hp2:=hone.2.2.2.2.1
  have HO:=Lib.hid hone
  have CH:=Lib.hid C
  clear C hone
  by_cases hs0:start<0
  ·go_enter Tryz.func136,Tryz.ntmps136
   go_wp2_with (first|(go_at_call 75;refine Grew.use CH.out (fun w1 ho1=>?_);have b1:=(Blk.new w 101 #[.int .i64 size,.int .i64 pages,.int .i64 batch]).only ho1 (by simp);have b10:=b1.cell_ 0 rfl;have b11:=b1.cell_ 1 rfl;have b12:=b1.cell_ 2 rfl))
   go_ret2
   exact⟨fun h=>absurd h.2.1 (by omega),fun _=>rfl,((Only.refl [] w).alloc _).trans ho1⟩
  ·by_cases hs1:1024-pages<start
   ·go_enter Tryz.func136,Tryz.ntmps136
    go_wp2_with (first|(go_at_call 75;refine Grew.use CH.out (fun w1 ho1=>?_);have b1:=(Blk.new w 101 #[.int .i64 size,.int .i64 pages,.int .i64 batch]).only ho1 (by simp);have b10:=b1.cell_ 0 rfl;have b11:=b1.cell_ 1 rfl;have b12:=b1.cell_ 2 rfl))
    go_ret2
    exact⟨fun h=>absurd h.2.2 (by omega),fun _=>rfl,((Only.refl [] w).alloc _).trans ho1⟩
   ·obtain⟨i0,hi0,hz0,hz1,hz2⟩:=info_parts info_int
    have hfit:Sp.fits start size pages batch:=⟨HO.out,by omega,by omega⟩
    have hg:=Sp.fresh_good hfit
    have hl:=hg.len
    obtain⟨n,hn⟩:∃n:Nat,pages*256/size=n:=⟨(pages*256/size).toNat,by rw[Int.toNat_of_nonneg];exact Int.ediv_nonneg (by omega) (by have:=HO.out.1;omega)⟩
    have hn':n<=128:=by simpa[Sp.fresh,hn] using hl
    rw[hn] at CH
    have hmk:=fun W=>run_make (P:=Tryz.prog) W 37 3 i0 (.int .i64 0) Tryz.underlying37 hi0 hz0 .i64 .i64 n n (by omega) (by omega) (by rw[hz2];omega) (by omega)
    simp only[Int.toNat_natCast,hz1] at hmk
    have HN:=Lib.hid hn
    have HF:=Lib.hid hfit
    clear hn hfit hl hg hz0 hz1 hz2 hi0
    go_enter Tryz.func136,Tryz.ntmps136
    go_wp2_with (first|(go_at_call 75;refine Grew.use CH.out (fun w1 ho1=>?_);have b1:=(Blk.new w 101 #[.int .i64 size,.int .i64 pages,.int .i64 batch]).only ho1 (by simp);have b10:=b1.cell_ 0 rfl;have b11:=b1.cell_ 1 rfl;have b12:=b1.cell_ 2 rfl))
    have b1l:=b1.lt
    go_region
    go_wp2
    go_ret2
    have hgd:=Sp.fresh_good HF.out
    have hst:(Sp.fresh start size pages batch).st=List.replicate n 0:=by simp[Sp.fresh,HN.out]
    refine⟨fun _=>⟨w1.heap.size+1,w1.heap.size,n,rfl,⟨?_,⟨madeCells #[.int .i64 0] n,?_,?_⟩,hgd⟩,by omega,by omega⟩,fun h=>absurd HF.out h,?_⟩
    ·rw[hst,List.length_replicate]
     have:=Blk.new (w1.alloc (.cells (madeCells #[.int .i64 0] n) 3)) 275 #[.int .i64 start,.int .i64 size,.int .i64 pages,.int .i64 batch,.slice (some ⟨w1.heap.size,0,none⟩) n n,.int .i64 0]
     simpa[Sp.fresh] using this.drew
    ·exact((Blk.new w1 3 (madeCells #[.int .i64 0] n)).alloc _).drew
    ·rw[hst,List.length_replicate]
     exact made_row n
    ·exact((((Only.refl [] w).alloc _).trans ho1).alloc _).alloc _ |>.drew
 ·have C:=Objects_any (w.alloc (.cells #[.int .i64 size,.int .i64 pages,.int .i64 batch] 101)) size pages batch
  rw[if_neg hone,if_neg hone] at C
  have HO:=Lib.hid hone
  have CH:=Lib.hid C
  clear C hone
  go_enter Tryz.func136,Tryz.ntmps136
  go_wp2_with (first|(go_at_call 75;refine Grew.use CH.out (fun w1 ho1=>?_)))
  go_ret2
  exact⟨fun h=>absurd h.1 HO.out,fun _=>rfl,((Only.refl [] w).alloc _).trans ho1⟩
def Sp.bits (s:Sp):ByteArray:=strOfNums (s.st.map (48+ ·))
def Sp.listTo (s:Sp):Nat->List Int
 |0=>[]
 |k+1=>s.listTo k++(if s.st.getD k 0=1 then [s.start*256+k*s.size] else [])
def Sp.list (s:Sp):List Int:=s.listTo s.st.length
theorem own0 (w:World) (t:Nat):(w.alloc (.cells #[] t)).ownsRow w.heap.size t 1 (.slice (some ⟨w.heap.size,0,none⟩) 0 0) 0 []:=World.ownsRow_lit w #[] 0 (Nat.le_refl _) (Nat.zero_le _) rfl
set_option maxHeartbeats 1000000 in
theorem sclone_any (w:World) (ad:Addr) (n cap:Nat) (l:List Int) (h:ReadsI w (some ad) n l) (hn:n<=1000000) (h0:0<n):Calls Tryz.prog 26 #[.slice (some ad) n cap] w fun e w'=>
 ∃v,e=.returned v/\w'.ownsRow w.heap.size 3 1 v n (l.map (Value.int .i64))/\Only [] w w':=by
 obtain⟨i0,hi,hz0,hz1,hz2⟩:=info_parts info_int
 have hnil:=Lib.run_eql_slice_nil (P:=Tryz.prog) w 37 3 (some ad) n cap 0 0 Tryz.underlying37
 obtain⟨hl,hc⟩:=h
 obtain⟨ad',he,hc⟩:=hc h0
 obtain rfl:ad=ad':=by injection he
 have HL:=Lib.hid hl
 have HC:=Lib.hid (fun j (u:Value) (hu:(l.map (Value.int .i64))[j]? =some u)=>(by
  have hj:j<n:=by
   rcases Nat.lt_or_ge j n with h1|h1
   ·exact h1
   ·rw[List.getElem?_eq_none (by rw[List.length_map,hl];exact h1)] at hu;cases hu
  have hcell:=hc j hj
  rw[List.getElem?_map,List.getElem?_eq_getElem (by omega)] at hu
  have hb:(ad.add j).block<w.heap.size:=World.block_lt_of_cell? w _ hcell
  rw[World.cell?_alloc_lt w _ _ hb,hcell]
  rw[List.getD_eq_getElem?_getD,List.getElem?_eq_getElem (by omega)]
  exact hu:(w.alloc (.cells #[] 3)).cell? (ad.add j)=some u))
 clear hl hc he
 go_enter Tryz.func26,Tryz.ntmps26
 go_wp2_with (at_builtin;refine wpList_append_own _ rfl _ _ 37 rfl w.heap.size 3 i0 (.int .i64 0) 1 8 Tryz.underlying37 hi hz0 hz1 hz2 rfl (by decide) _ _ _ rfl (own0 w _) ad n cap (l.map (Value.int .i64)) rfl (by rw[List.length_map,HL.out,Nat.mul_one]) HC.out (one_cell_int l) (by unfold maxLen;omega) (by omega) (by simp) ?_;intro v1 w1 hown1 hg1 _)
 go_ret
 refine⟨_,rfl,by simpa using hown1,((Only.refl [] w).alloc _).grown hg1 (fun k hk=>.inr (own_base (own0 w 0) k hk))⟩
theorem idx_of_obj {s:Sp} (hg:s.Good) {i m:Int} (h0:0<=i) (h1:i<s.st.length) (hm0:0<=m) (hm:m<s.size):s.idx (s.start*256+i*s.size+m)=(i,0):=by
 have e:(s.start*256+i*s.size+m-s.start*256)=i*s.size+m:=by omega
 have hs:=hg.s1
 have hle:i*s.size+m<(i+1)*s.size:=by rw[Int.add_mul];omega
 have hle2:(i+1)*s.size<=(s.st.length:Int)*s.size:=Int.mul_le_mul_of_nonneg_right (by omega) (by omega)
 have hge:0<=i*s.size:=Int.mul_nonneg h0 (by omega)
 have hd:(i*s.size+m)/s.size=i:=by
  rw[Int.add_comm,Int.add_mul_ediv_right _ _ (by omega),Int.ediv_eq_zero_of_lt hm0 hm]
  omega
 unfold Sp.idx
 rw[if_neg (by omega),e,if_neg (by omega),hd]
abbrev rAt (l:List (Int×Int)) (j:Nat):Int×Int:=l.getD j (0,0)
def cellsR (l:List (Int×Int)):List Value:=l.flatMap fun r=>[.int .i64 r.1,.int .i64 r.2]
theorem cellsR_at (l:List (Int×Int)) (j:Nat) (h:j<l.length):(cellsR l)[j*2]? =some (.int .i64 (rAt l j).1)/\(cellsR l)[j*2+1]? =some (.int .i64 (rAt l j).2):=by
 induction l generalizing j with
 |nil=>simp at h
 |cons x l ih=>
  have e:cellsR (x::l)=.int .i64 x.1:: .int .i64 x.2::cellsR l:=rfl
  rw[e]
  cases j with
  |zero=>simp[rAt]
  |succ j=>
   have:=ih j (by simpa using h)
   rw[show(j+1)*2=j*2+1+1 by omega]
   simpa[rAt] using this
theorem cellsR_append (l m:List (Int×Int)):cellsR (l++m)=cellsR l++cellsR m:=by simp[cellsR]
theorem own_set {w:World} {base:Nat} {e:TypeId} {size n g c:Nat} {xs:List Value} (h:w.ownsRow base e size (.slice (some ⟨g,0,none⟩) n c) n xs) (i:Nat) (u:Value):(w.setCell ⟨g,i,none⟩ u).ownsRow base e size (.slice (some ⟨g,0,none⟩) n c) n (xs.set i u):=by
 obtain⟨h1,h2⟩:=h
 refine⟨by simpa using h1,?_⟩
 rcases h2 with ⟨h2,_⟩|⟨g',cap,cur,hv,hb,hg,h3,h4,h5,h6⟩
 ·cases h2
 ·injection hv with e1 _ e3
  injection e1 with e1
  injection e1 with e1 _ _
  subst e1 e3
  have hB:Blk w g e cur:=hg
  refine .inr ⟨g,c,cur.setIfInBounds i u,rfl,hb,hB.set_ i u,h3,h4,by simpa using h5,?_⟩
  rw[<-h6,Array.toList_setIfInBounds,List.take_set]
theorem own_runs {w:World} {base n g c:Nat} {e:TypeId} {l:List (Int×Int)} (h:w.ownsRow base e 2 (.slice (some ⟨g,0,none⟩) n c) n (cellsR l)) (hn:n=l.length) {j:Nat} (hj:j<n):
 w.cell? ⟨g,j*2,none⟩=some (.int .i64 (rAt l j).1)/\w.cell? ⟨g,j*2+1,none⟩=some (.int .i64 (rAt l j).2)/\(∀k,w.frozen? ⟨g,k,none⟩=false):=by
 rcases h.2 with ⟨h2,_⟩|⟨g',cap,cur,hv,hb,hg,h3,h4,h5,h6⟩
 ·cases h2
 ·injection hv with e1 _ e3
  injection e1 with e1
  injection e1 with e1 _ _
  subst e1 e3
  have hB:Blk w g e cur:=hg
  have hat:∀i u,i<n*2->(cellsR l)[i]? =some u->w.cell? ⟨g,i,none⟩=some u:=fun i u hi hu=>by
   rw[<-h6,List.getElem?_take,if_pos hi,Array.getElem?_toList] at hu
   exact hB.cell_ i hu
  obtain⟨a1,a2⟩:=cellsR_at l j (by omega)
  exact⟨hat _ _ (by omega) a1,hat _ _ (by omega) a2,fun k=>hB.frozen k⟩
theorem rAt_snoc (l:List (Int×Int)) (j:Nat) (x:Int×Int):rAt (l++[x]) j=if j=l.length then x else rAt l j:=by
 unfold rAt
 rw[List.getD_eq_getElem?_getD,List.getD_eq_getElem?_getD]
 by_cases e:j=l.length
 ·subst e;simp
 ·rw[if_neg e]
  by_cases h:j<l.length
  ·rw[List.getElem?_append_left h]
  ·rw[List.getElem?_eq_none (by simp;omega),List.getElem?_eq_none (by omega)]
theorem info_run:(Tryz.prog.info? 243).map (fun i=>(i.zero,i.size,i.bytes))=some (some (.agg #[.int .i64 0,.int .i64 0]),2,16):=by kernel_rfl
theorem news_new (w:World) (cs:Array Value) (t:TypeId):∀j u,cs.toList[j]? =some u->(w.alloc (.cells cs t)).cell? ((⟨w.heap.size,0,none⟩:Addr).add j)=some u:=World.news_of_block (Blk.new w t cs)
theorem own_reads {w:World} {base n:Nat} {v:Value} {l:List Int} (h:w.ownsRow base 3 1 v n (l.map (Value.int .i64))):∃A c,v=.slice A n c/\ReadsI w A n l/\∀ad,A=some ad->base<=ad.block:=by
 have hl:l.length=n:=by have:=h.1;simpa using this
 rcases h.2 with ⟨rfl,h0⟩|⟨g,cap,cur,rfl,hb,hh,_⟩
 ·exact⟨none,0,by rw[h0],⟨hl,fun hp=>absurd hp (by omega)⟩,by simp⟩
 ·refine⟨_,cap,rfl,⟨hl,fun _=>⟨_,rfl,fun j hj=>?_⟩⟩,by rintro ad e;injection e with e;subst e;exact hb⟩
  rw[add_plain,h.cellAt j (by omega),List.getElem?_map,List.getElem?_eq_getElem (by omega),List.getD_eq_getElem?_getD,List.getElem?_eq_getElem (by omega)]
  rfl
theorem ReadsI.only {w w':World} {A:Option Addr} {n:Nat} {l:List Int} {L:List Nat} (h:ReadsI w A n l) (ho:Only L w w') (hn:∀ad,A=some ad->ad.block∉L):ReadsI w' A n l:=by
 obtain⟨h1,h2⟩:=h
 refine⟨h1,fun h0=>?_⟩
 obtain⟨ad,rfl,hc⟩:=h2 h0
 refine⟨ad,rfl,fun j hj=>?_⟩
 have hb:(ad.add j).block=ad.block:=by unfold Addr.add;split<;>rfl
 exact(ho.cell (World.block_lt_of_cell? w _ (hc j hj)) (by rw[hb];exact hn ad rfl)).trans (hc j hj)
def ReadsR (w:World) (v:Value) (n:Nat) (l:List (Int×Int)):Prop:=∃A c,v=.slice A n c/\(0<n->∃g,A=some ⟨g,0,none⟩/\∀j,j<n->w.cell? ⟨g,j*2,none⟩=some (.int .i64 (rAt l j).1)/\w.cell? ⟨g,j*2+1,none⟩=some (.int .i64 (rAt l j).2))
theorem ReadsR.still {w w':World} {v:Value} {n:Nat} {l:List (Int×Int)} (h:ReadsR w v n l) (ho:Only [] w w'):ReadsR w' v n l:=by
 obtain⟨A,c,rfl,h⟩:=h
 refine⟨A,c,rfl,fun h0=>?_⟩
 obtain⟨g,rfl,hc⟩:=h h0
 exact⟨g,rfl,fun j hj=>⟨(ho.cell (World.block_lt_of_cell? w _ (hc j hj).1) (by simp)).trans (hc j hj).1,(ho.cell (World.block_lt_of_cell? w _ (hc j hj).2) (by simp)).trans (hc j hj).2⟩⟩
theorem own_readsR {w:World} {base n:Nat} {v:Value} {e:TypeId} {l:List (Int×Int)} (h:w.ownsRow base e 2 v n (cellsR l)) (hn:n=l.length):ReadsR w v n l:=by
 rcases Nat.eq_zero_or_pos n with h0|h0
 ·obtain⟨A,c,rfl,_⟩:=own_slice h
  exact⟨A,c,rfl,fun h=>absurd h (by omega)⟩
 ·obtain⟨g,c,rfl,_⟩:=own_form h h0
  exact⟨_,c,rfl,fun _=>⟨g,rfl,fun j hj=>by obtain⟨a1,a2,_⟩:=own_runs h hn hj;exact⟨a1,a2⟩⟩⟩
end Go.Proofs.YtcidjimefnhacaaGreatDoor
