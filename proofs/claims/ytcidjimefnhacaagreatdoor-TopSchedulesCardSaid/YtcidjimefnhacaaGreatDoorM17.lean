/- TopSchedules, a part of the proof: Bv, Bw, Bx, By, Bz. -/
import Derived.Test.YtcidjimefnhacaaGreatDoorM16
import Derived.Deep.RegionLaw
set_option linter.unusedVariables false
set_option linter.unusedSimpArgs false
namespace Go.Proofs.YtcidjimefnhacaaGreatDoor
open Go.RowKit
def bud (k:Nat) (s:Int):Int:=if s/2 ^ k%2=0 then s+2 ^ k else s-2 ^ k
def budOk:Bool:=(List.range 9).all fun k=>(List.range 256).all fun s=>bits .xor .i64 (s:Int) ((2:Int) ^ k)==bud k s
theorem budOk_true:budOk=true:=by kernel_rfl
theorem bud_xor {k s:Nat} (hk:k<9) (hs:s<256):bits .xor .i64 (s:Int) ((2:Int) ^ k)=bud k s:=by
 have h:=budOk_true
 unfold budOk at h
 rw[List.all_eq_true] at h
 have h1:=h k (by simpa using hk)
 rw[List.all_eq_true] at h1
 have h2:=h1 s (by simpa using hs)
 simpa using h2
def Off (k:Nat) (s:Int) (k':Nat) (s':Int):Prop:=s+2 ^ k<=s'\/s'+2 ^ k'<=s
structure Free1 (B:Nat->Int->Bool) (k:Nat) (s:Int):Prop where
 k9:k<9
 s0:0<=s
 al:s%2 ^ k=0
 top:s+2 ^ k<=256
 off:∀k' s',B k' s'=true->Off k s k' s'
def bPut (B:Nat->Int->Bool) (k:Nat) (s:Int):Nat->Int->Bool:=fun k' s'=>if k'=k/\s'=s then true else B k' s'
def bDel (B:Nat->Int->Bool) (k:Nat) (s:Int):Nat->Int->Bool:=fun k' s'=>if k'=k/\s'=s then false else B k' s'
theorem bPut_good {B:Nat->Int->Bool} {k:Nat} {s:Int} (hg:BGood B) (h:Free1 B k s):BGood (bPut B k s):=by
 constructor
 ·intro k' s' h1
  unfold bPut at h1
  split at h1
  ·rename_i e;obtain⟨rfl,rfl⟩:=e;exact⟨h.k9,h.s0,h.al,h.top⟩
  ·exact hg.wf k' s' h1
 ·intro k1 s1 k2 s2 h1 h2 hne
  unfold bPut at h1 h2
  split at h1
  ·rename_i e1
   obtain⟨rfl,rfl⟩:=e1
   split at h2
   ·rename_i e2
    obtain⟨rfl,rfl⟩:=e2
    simp at hne
   ·exact h.off k2 s2 h2
  ·split at h2
   ·rename_i e2
    obtain⟨rfl,rfl⟩:=e2
    exact(h.off k1 s1 h1).symm
   ·exact hg.ap k1 s1 k2 s2 h1 h2 hne
theorem bPut_free {B:Nat->Int->Bool} {k:Nat} {s p:Int}:bF (bPut B k s) p↔bF B p\/(s<=p/\p<s+2 ^ k):=by
 constructor
 ·rintro ⟨k',s',h1,h2,h3⟩
  unfold bPut at h1
  split at h1
  ·rename_i e;obtain⟨rfl,rfl⟩:=e;exact .inr ⟨h2,h3⟩
  ·exact .inl ⟨k',s',h1,h2,h3⟩
 ·rintro (⟨k',s',h1,h2,h3⟩|⟨h2,h3⟩)
  ·refine⟨k',s',?_,h2,h3⟩
   unfold bPut
   split
   ·rfl
   ·exact h1
  ·exact⟨k,s,by unfold bPut;simp,h2,h3⟩
theorem bDel_good {B:Nat->Int->Bool} {k:Nat} {s:Int} (hg:BGood B):BGood (bDel B k s):=by
 have hs:∀k' s',bDel B k s k' s'=true->B k' s'=true:=fun k' s' h=>by
  unfold bDel at h
  split at h
  ·cases h
  ·exact h
 exact⟨fun k' s' h=>hg.wf k' s' (hs _ _ h),fun k1 s1 k2 s2 h1 h2 hne=>hg.ap k1 s1 k2 s2 (hs _ _ h1) (hs _ _ h2) hne⟩
theorem bDel_free {B:Nat->Int->Bool} {k:Nat} {s p:Int} (hg:BGood B) (hb:B k s=true):bF (bDel B k s) p↔bF B p/\¬(s<=p/\p<s+2 ^ k):=by
 constructor
 ·rintro ⟨k',s',h1,h2,h3⟩
  unfold bDel at h1
  split at h1
  ·cases h1
  ·rename_i hne
   refine⟨⟨k',s',h1,h2,h3⟩,fun h=>?_⟩
   have:=hg.ap k s k' s' hb h1 (by
    by_cases e:k=k'
    ·right;intro e2;exact hne ⟨e.symm,e2.symm⟩
    ·exact .inl e)
   omega
 ·rintro ⟨⟨k',s',h1,h2,h3⟩,hn⟩
  refine⟨k',s',?_,h2,h3⟩
  unfold bDel
  rw[if_neg]
  ·exact h1
  ·rintro ⟨rfl,rfl⟩;exact hn ⟨h2,h3⟩
theorem bud_al {k:Nat} {s:Int} (hk:k+1<9) (h0:0<=s) (ha:s%2 ^ k=0) (ht:s+2 ^ k<=256):
 (bud k s=s+2 ^ k/\pl (k+1) s=s)\/(bud k s=s-2 ^ k/\pl (k+1) s=s-2 ^ k):=by
 obtain⟨p1,p2⟩:=pow_le (show k<9 by omega)
 have e:(2:Int) ^ (k+1)=2 ^ k*2:=by rw[Int.pow_succ]
 unfold bud pl
 rw[e]
 generalize (2:Int) ^ k=q at *
 have h1:=Int.mul_ediv_add_emod s q
 rw[ha,Int.add_zero] at h1
 have h2:s/(q*2)=s/q/2:=by rw[Int.ediv_ediv_of_nonneg (by omega)]
 generalize hd:s/q=d at *
 subst h1
 have h3:=Int.mul_ediv_add_emod d 2
 rcases (show d%2=0\/d%2=1 by omega) with h4|h4
 ·left
  rw[if_pos h4]
  refine⟨rfl,?_⟩
  rw[h2]
  rw[h4] at h3
  have:d/2*(q*2)=q*(2*(d/2)):=by rw[Int.mul_comm q 2,<-Int.mul_assoc,Int.mul_comm,Int.mul_comm 2]
  rw[this]
  congr 1
  omega
 ·right
  rw[if_neg (by omega)]
  refine⟨rfl,?_⟩
  rw[h2]
  have:d/2*(q*2)=q*(2*(d/2)):=by rw[Int.mul_comm q 2,<-Int.mul_assoc,Int.mul_comm,Int.mul_comm 2]
  rw[this]
  have h5:2*(d/2)=d-1:=by omega
  rw[h5,Int.mul_sub,Int.mul_one]
theorem join_ok {B:Nat->Int->Bool} {k:Nat} {s:Int} (hg:BGood B) (hk:k+1<9) (h:Free1 B k s) (hb:B k (bud k s)=true):Free1 (bDel B k (bud k s)) (k+1) (pl (k+1) s)/\∀p,(bF (bDel B k (bud k s)) p\/(pl (k+1) s<=p/\p<pl (k+1) s+2 ^ (k+1)))↔(bF B p\/(s<=p/\p<s+2 ^ k)):=by
 obtain⟨_,w1,w2,w3⟩:=hg.wf _ _ hb
 have e:(2:Int) ^ (k+1)=2 ^ k*2:=by rw[Int.pow_succ]
 have hpl:=pl_le hk h.s0
 have hal:=bud_al hk h.s0 h.al h.top
 have hoff:∀k' s',bDel B k (bud k s) k' s'=true->Off (k+1) (pl (k+1) s) k' s':=by
  intro k' s' h1
  unfold bDel at h1
  split at h1
  ·cases h1
  ·rename_i hne
   have a1:=h.off k' s' h1
   have a2:=hg.ap k (bud k s) k' s' hb h1 (by
    by_cases e:k=k'
    ·right;intro e2;exact hne ⟨e.symm,e2.symm⟩
    ·exact .inl e)
   have a3:=hg.wf k' s' h1
   obtain⟨q1,q2⟩:=pow_le a3.1
   unfold Off at a1 ⊢
   rw[e]
   rcases hal with ⟨x1,x2⟩|⟨x1,x2⟩
   ·rw[x1] at a2;rw[x2];omega
   ·rw[x1] at a2;rw[x2];omega
 refine⟨⟨hk,hpl.1,hpl.2.2.2,?_,hoff⟩,fun p=>?_⟩
 ·rw[e]
  rcases hal with ⟨x1,x2⟩|⟨x1,x2⟩
  ·rw[x2];rw[x1] at w3;omega
  ·rw[x2];have:=h.top;omega
 ·rw[bDel_free hg hb,e]
  have hin:bF B p\/¬bF B p:=Classical.em _
  have hbb:(bud k s<=p/\p<bud k s+2 ^ k)->bF B p:=fun h=>⟨k,_,hb,h.1,h.2⟩
  rcases hal with ⟨x1,x2⟩|⟨x1,x2⟩
  ·rw[x1] at hbb ⊢
   rw[x2]
   constructor
   ·rintro (h|h)
    ·exact .inl h.1
    ·by_cases h3:p<s+2 ^ k
     ·exact .inr ⟨h.1,h3⟩
     ·exact .inl (hbb ⟨by omega,by omega⟩)
   ·rintro (h|h)
    ·by_cases h3:s+2 ^ k<=p/\p<s+2 ^ k+2 ^ k
     ·exact .inr ⟨by have:=pow_le (show k<9 by omega);omega,by omega⟩
     ·exact .inl ⟨h,h3⟩
    ·exact .inr ⟨h.1,by have:=pow_le (show k<9 by omega);omega⟩
  ·rw[x1] at hbb ⊢
   rw[x2]
   constructor
   ·rintro (h|h)
    ·exact .inl h.1
    ·by_cases h3:s<=p
     ·exact .inr ⟨h3,by omega⟩
     ·exact .inl (hbb ⟨by omega,by omega⟩)
   ·rintro (h|h)
    ·by_cases h3:s-2 ^ k<=p/\p<s-2 ^ k+2 ^ k
     ·exact .inr ⟨by omega,by omega⟩
     ·exact .inl ⟨h,h3⟩
    ·exact .inr ⟨by have:=pow_le (show k<9 by omega);omega,by omega⟩
theorem wp_del {w:World} {o:Oper} {a:Act} {K:Act->World->Prop} {Q:Exit->Act->World->Prop} (mm x:Operand) (T V:TypeId) (ho:o.op=.call {callee:=.builtin .delete,args:=#[mm,x],argTypes:=#[T,3]})
 (hT:Tryz.prog.underlying T=some (.map 3 V)) {b c:Nat} {G:Int->Option Value} (hm:a.eval mm=.map (some b)) (hI:IMap w b G c) {k:Int} (hx:a.eval x=.int .i64 k) (hk:I64 k)
 (h:∀w',Only [b] w w'->IMap w' b (fun j=>if j=k then none else G j) (if(G k).isSome then c-1 else c)->K (a.put o.dst (.tuple #[])) w'):o.wp Tryz.prog a w K Q:=by
 obtain⟨ob,hr,h1,h2⟩:=hI.del hT hk o.type
 unfold Oper.wp
 simp[execOp,ho,resolve,invoke,builtin,hm,hx,hr,Result.andThen]
 exact h _ h2 h1
theorem wpList_del {w:World} {ops:Array Oper} {rest:List Oper} {o:Oper} {a:Act} {Q:Exit->Act->World->Prop} (hgd:o.guard=none) (mm x:Operand) (T V:TypeId) (ho:o.op=.call {callee:=.builtin .delete,args:=#[mm,x],argTypes:=#[T,3]})
 (hT:Tryz.prog.underlying T=some (.map 3 V)) {b c:Nat} {G:Int->Option Value} (hm:a.eval mm=.map (some b)) (hI:IMap w b G c) {k:Int} (hx:a.eval x=.int .i64 k) (hk:I64 k)
 (h:∀w',Only [b] w w'->IMap w' b (fun j=>if j=k then none else G j) (if(G k).isSome then c-1 else c)->wpList Tryz.prog ops Q rest (a.put o.dst (.tuple #[])) w'):wpList Tryz.prog ops Q (o::rest) a w:=
 wpList_plain hgd fun _ hK=>wp_del mm x T V ho hT hm hI hx hk fun w' h1 h2=>hK _ _ (h w' h1 h2)
theorem step_del {w:World} {ops:Array Oper} {o:Oper} {a:Act} {K:Act->World->Prop} {Q:Exit->Act->World->Prop} {E:Prop} (hgd:o.guard=none) (mm x:Operand) (T V:TypeId) (ho:o.op=.call {callee:=.builtin .delete,args:=#[mm,x],argTypes:=#[T,3]})
 (hT:Tryz.prog.underlying T=some (.map 3 V)) {b c:Nat} {G:Int->Option Value} (hm:a.eval mm=.map (some b)) (hI:IMap w b G c) {k:Int} (hx:a.eval x=.int .i64 k) (hk:I64 k)
 (h:∀w',Only [b] w w'->IMap w' b (fun j=>if j=k then none else G j) (if(G k).isSome then c-1 else c)->K (a.put o.dst (.tuple #[])) w'):if Region.wanted o (yielded ops a.tmps)=true then Oper.wp Tryz.prog o a w K Q else E:=by
 have hw:Region.wanted o (yielded ops a.tmps)=true:=by simp[Region.wanted,hgd]
 rw[if_pos hw]
 exact wp_del mm x T V ho hT hm hI hx hk h
theorem wpList_put {w:World} {ops:Array Oper} {rest:List Oper} {o:Oper} {a:Act} {Q:Exit->Act->World->Prop} (hgd:o.guard=none) (mm x y:Operand) (T V:TypeId) (ho:o.op=.mapUpdate T mm x y)
 (hT:Tryz.prog.underlying T=some (.map 3 V)) {b c:Nat} {G:Int->Option Value} (hm:a.eval mm=.map (some b)) (hI:IMap w b G c) {k:Int} (hx:a.eval x=.int .i64 k) (hk:I64 k) {v:Value} (hy:a.eval y=v)
 (h:∀w',Only [b] w w'->IMap w' b (fun j=>if j=k then some v else G j) (if(G k).isSome then c else c+1)->wpList Tryz.prog ops Q rest (a.put o.dst undef) w'):wpList Tryz.prog ops Q (o::rest) a w:=by
 refine wpList_plain hgd fun K hK=>?_
 obtain⟨ob,hr,h1,h2⟩:=hI.put hT hk v
 unfold Oper.wp
 simp[execOp,ho,hm,hx,hy,hr,Result.andThen]
 exact hK _ _ (h _ h2 h1)
theorem BuSt.turn1 {p:Nat} {B B':Nat->Int->Bool} {w w':World} {fp:List Nat} {g cp:Nat} {m c:Nat->Nat} (hg':BGood B') (a1:Blk w p 173 #[.int .i64 256,.slice (some ⟨g,0,none⟩) 9 cp]) (a2:9<=cp) (a3:V.Row w g 9 (fun k=>.map (some (m k)))) (a4:∀k,k<9->IMap w (m k) (bG B k) (c k))
 (a5:∀k k',k<9->k'<9->m k=m k'->k=k') (a6:∀k,k<9->m k≠p/\m k≠g) (a7:p≠g) (a8:∀b,b∈fp↔b=p\/b=g\/∃k,k<9/\b=m k) {k c':Nat} (hk:k<9) (ho:Only [m k] w w') (hI:IMap w' (m k) (bG B' k) c') (hB:∀j,j≠k->∀s,B' j s=B j s):
 BuSt p B' w' fp/\Only fp w w':=by
 refine⟨⟨hg',g,cp,m,fun j=>if j=k then c' else c j,a1.only ho (by simpa using (a6 k hk).1.symm),a2,a3.only ho (by simpa using (a6 k hk).2.symm),fun j hj=>?_,a5,a6,a7,a8⟩,ho.mono (fun x hx=>by simp at hx;subst hx;exact(a8 _).2 (.inr (.inr ⟨k,hk,rfl⟩)))⟩
 by_cases e:j=k
 ·subst e;simpa using hI
 ·simp only[if_neg e]
  refine((a4 j hj).only ho (by simpa using fun h=>e (a5 j k hj hk h))).ext (fun s=>?_)
  unfold bG
  rw[hB j e s]
theorem bG_del {B:Nat->Int->Bool} {k:Nat} {s:Int}:∀j,(if j=s then none else bG B k j)=bG (bDel B k s) k j:=fun j=>by
 unfold bG bDel
 by_cases e:j=s
 ·simp[e]
 ·simp[e]
theorem bG_put {B:Nat->Int->Bool} {k:Nat} {s:Int}:∀j,(if j=s then some (.bool true) else bG B k j)=bG (bPut B k s) k j:=fun j=>by
 unfold bG bPut
 by_cases e:j=s
 ·simp[e]
 ·simp[e]
theorem bDel_other {B:Nat->Int->Bool} {k:Nat} {s:Int}:∀j,j≠k->∀x,bDel B k s j x=B j x:=fun j hj x=>by unfold bDel;simp[hj]
theorem bPut_other {B:Nat->Int->Bool} {k:Nat} {s:Int}:∀j,j≠k->∀x,bPut B k s j x=B j x:=fun j hj x=>by unfold bPut;simp[hj]
set_option maxHeartbeats 4000000 in
theorem badd_at {p:Nat} {B:Nat->Int->Bool} {w:World} {fp:List Nat} (h:BuSt p B w fp) (k s:Nat) (hf:Free1 B k s):Calls Tryz.prog 210 #[.pointer (some ⟨p,0,none⟩),.int .i64 k,.int .i64 s] w fun e w'=>e=.returned (.tuple #[])/\
 ∃B',BuSt p B' w' fp/\Only fp w w'/\∀x,bF B' x↔bF B x\/((s:Int)<=x/\x<s+2 ^ k):=by
 have H:=Lib.hid h
 have HF:=Lib.hid hf
 clear h hf
 go_enter Tryz.func210,Tryz.ntmps210
 go_wp2_with fail
 go_loopw[1,2] (fun u v wr=>∃(k1 s1:Nat) (B1:Nat->Int->Bool),u=.int .i64 k1/\v=.int .i64 s1/\BuSt p B1 wr fp/\Only fp w wr/\Free1 B1 k1 s1/\∀x,(bF B1 x\/((s1:Int)<=x/\x<s1+2 ^ k1))↔(bF B x\/((s:Int)<=x/\x<s+2 ^ k))) (fun u _ _=>9-(intOf u).toNat)
 case atStart=>exact⟨k,s,B,rfl,rfl,H.out,Only.refl _ _,HF.out,fun x=>Iff.rfl⟩
 case round=>
  obtain⟨k1,s1,B1,rfl,rfl,hb,ho,hf1,hiff⟩:=hrel
  have HO:=Lib.hid ho
  have HF1:=Lib.hid hf1
  have HIFF:=Lib.hid hiff
  obtain⟨h1,g,cp,m,c,a1,a2,a3,a4,a5,a6,a7,a8⟩:=hb
  have hk9:=hf1.k9
  have hs0:=hf1.s0
  have htop:=hf1.top
  have hal:=hf1.al
  obtain⟨q1,q2⟩:=pow_le hk9
  have z1:=a1.cell_ 1 rfl
  have c0:=a3.cell hk9
  have hs256:s1<256:=by omega
  have hk9':(k1:Int)<9:=by omega
  have w0:IntKind.i64.wrap ((k1:Int)+1)=k1+1:=IntWalk.i64_in _ (by omega)
  have wp:IntKind.i64.wrap ((2:Int) ^ k1)=2 ^ k1:=IntWalk.i64_in _ (by omega)
  have hx:=bud_xor hk9 hs256
  have A1:=Lib.hid a1
  have A3:=Lib.hid a3
  have A4:=Lib.hid a4
  have A5:=Lib.hid a5
  have A6:=Lib.hid a6
  have A8:=Lib.hid a8
  have HG:=Lib.hid h1
  have hI:=a4 k1 hk9
  have HI:=Lib.hid hI
  clear ho hf1 hiff a1 a3 a4 a5 a6 a8 h1
  by_cases hlt:k1+1<9
  ·have d1:decide ((k1:Int)+1<9)=true:=decide_eq_true (by omega)
   have hb2:0<=bud k1 (s1:Int)\/True:=.inr trivial
   have hbr:I64 (bud k1 (s1:Int)):=by
    have:=bud_al hlt hs0 hal htop
    unfold I64
    omega
   cases hbb:B1 k1 (bud k1 (s1:Int)) with
   |true=>
    have hlk:∀u:After wr,(Instr.lookup 174 (.map (some (m k1))) (.int .i64 (bud k1 (s1:Int))) false).run Tryz.prog u.w'=.ok (.bool true) u.w':=fun u=>by
     have:=(HI.out.only u.ok (by simp)).look und_mib zero_bool hbr false
     rw[bG_get,hbb] at this
     exact this
    have C0:=cell_after c0
    have Z1:=cell_after z1
    have HBB:=Lib.hid hbb
    have HBR:=Lib.hid hbr
    clear hbb hb2 hbr hI
    obtain⟨bb,hbbe⟩:∃bb,bb=bud k1 (s1:Int):=⟨_,rfl⟩
    rw[<-hbbe] at hx hlk HBR
    have HEQ:=Lib.hid hbbe
    clear hbbe
    go_wp2_with fail
    refine wp_region_grew (by kernel_rfl) (by kernel_rfl) ?_
    repeat (go_big_quiet_step (fail))
    refine wpQuiet_nil ?_
    rintro _ ⟨u,rfl⟩
    obtain⟨b1,b2,b3,b4⟩:=pl_le hlt (x:=(s1:Int)) (by omega)
    obtain⟨s2,hs2⟩:∃s2:Nat,pl (k1+1) (s1:Int)=s2:=⟨(pl (k1+1) (s1:Int)).toNat,by omega⟩
    have w2:IntKind.i64.wrap ((s1:Int)/2 ^ (k1+1)*2 ^ (k1+1))=s2:=by rw[<-hs2];exact IntWalk.i64_in _ (by unfold pl at b1 b2;omega)
    have HS2:=Lib.hid hs2
    have c1:=C0 u
    have z2:=Z1 u
    clear hs2 b1 b2 b3 b4
    have oD:Only [] wr u.w'.drew:=u.ok.trans (Only.of_dr (Dr.refl _).drew)
    have HID:=Lib.hid (HI.out.only oD (by simp))
    have HOD:=Lib.hid oD
    clear oD
    go_wp2_with fail
    go_region_law (go_loud (refine step_del rfl _ _ 174 4 rfl und_mib rfl HID.out rfl HBR.out ?_);intro w3 ho3 hI3)
    go_wp2
    go_roundw
    case rel=>
     obtain⟨j1,j2⟩:=join_ok HG.out hlt HF1.out HBB.out
     obtain⟨t1,t2⟩:=BuSt.turn1 (B':=bDel B1 k1 (bud k1 (s1:Int))) (k:=k1) (bDel_good HG.out) (A1.out.only HOD.out (by simp)) a2 (A3.out.only HOD.out (by simp)) (fun j hj=>(A4.out j hj).only HOD.out (by simp)) A5.out A6.out a7 A8.out hk9 ho3 (hI3.ext (fun s=>by rw[HEQ.out];exact bG_del s)) (fun j hj s=>bDel_other j hj s)
     rw[HS2.out] at j1 j2
     exact⟨k1+1,s2,_,by go_num,rfl,t1,(HO.out.trans HOD.out.of_nil).trans t2,j1,fun x=>(j2 x).trans (HIFF.out x)⟩
    case measure=>simp[intOf];omega
   |false=>
    have hlk:∀u:After wr,(Instr.lookup 174 (.map (some (m k1))) (.int .i64 (bud k1 (s1:Int))) false).run Tryz.prog u.w'=.ok (.bool false) u.w':=fun u=>by
     have:=(HI.out.only u.ok (by simp)).look und_mib zero_bool hbr false
     rw[bG_get,hbb] at this
     exact this
    have C0:=cell_after c0
    have Z1:=cell_after z1
    have hsr:I64 (s1:Int):=by unfold I64;omega
    clear hbb hb2 hbr hI
    generalize bud k1 (s1:Int)=bb at *
    go_wp2_with fail
    refine wp_region_grew (by kernel_rfl) (by kernel_rfl) ?_
    repeat (go_big_quiet_step (fail))
    refine wpQuiet_nil ?_
    rintro _ ⟨u,rfl⟩
    have c1:=C0 u
    have z2:=Z1 u
    have HIU:=Lib.hid (HI.out.only u.ok (by simp))
    go_wp2_with (at_mapUpdate;refine wpList_put rfl _ _ _ 174 4 rfl und_mib rfl HIU.out rfl hsr rfl ?_;intro w3 ho3 hI3)
    go_end0
    obtain⟨t1,t2⟩:=BuSt.turn1 (B':=bPut B1 k1 (s1:Int)) (k:=k1) (bPut_good HG.out HF1.out) (A1.out.only u.ok (by simp)) a2 (A3.out.only u.ok (by simp)) (fun j hj=>(A4.out j hj).only u.ok (by simp)) A5.out A6.out a7 A8.out hk9 ho3 (hI3.ext (fun s=>bG_put s)) (fun j hj s=>bPut_other j hj s)
    exact⟨rfl,_,t1,(HO.out.trans u.ok.of_nil).trans t2,fun x=>bPut_free.trans (HIFF.out x)⟩
  ·have d1:decide ((k1:Int)+1<9)=false:=decide_eq_false (by omega)
   have C0:=cell_after c0
   have Z1:=cell_after z1
   have hsr:I64 (s1:Int):=by unfold I64;omega
   clear hI hx
   go_wp2_with fail
   refine wp_region_grew (by kernel_rfl) (by kernel_rfl) ?_
   repeat (go_big_quiet_step (fail))
   refine wpQuiet_nil ?_
   rintro _ ⟨u,rfl⟩
   have c1:=C0 u
   have z2:=Z1 u
   have HIU:=Lib.hid (HI.out.only u.ok (by simp))
   go_wp2_with (at_mapUpdate;refine wpList_put rfl _ _ _ 174 4 rfl und_mib rfl HIU.out rfl hsr rfl ?_;intro w3 ho3 hI3)
   go_end0
   obtain⟨t1,t2⟩:=BuSt.turn1 (B':=bPut B1 k1 (s1:Int)) (k:=k1) (bPut_good HG.out HF1.out) (A1.out.only u.ok (by simp)) a2 (A3.out.only u.ok (by simp)) (fun j hj=>(A4.out j hj).only u.ok (by simp)) A5.out A6.out a7 A8.out hk9 ho3 (hI3.ext (fun s=>bG_put s)) (fun j hj s=>bPut_other j hj s)
   exact⟨rfl,_,t1,(HO.out.trans u.ok.of_nil).trans t2,fun x=>bPut_free.trans (HIFF.out x)⟩
theorem free1_of {B:Nat->Int->Bool} {k:Nat} {s m:Int} (hg:BGood B) (hk:k<9) (h0:0<=s) (ha:s%2 ^ k=0) (hm:2 ^ k<=m) (ht:s+m<=256) (hn:∀x,s<=x->x<s+m->¬bF B x):Free1 B k s:=by
 refine⟨hk,h0,ha,by omega,fun k' s' hb=>?_⟩
 obtain⟨k9,w1,w2,w3⟩:=hg.wf k' s' hb
 obtain⟨q1,q2⟩:=pow_le k9
 obtain⟨p1,p2⟩:=pow_le hk
 unfold Off
 rcases Int.lt_or_le s' (s+2 ^ k) with h1|h1
 ·right
  rcases Int.lt_or_le s (s'+2 ^ k') with h2|h2
  ·exfalso
   rcases Int.lt_or_le s s' with h3|h3
   ·exact hn s' (by omega) (by omega) ⟨k',s',hb,by omega,by omega⟩
   ·exact hn s (by omega) (by omega) ⟨k',s',hb,by omega,by omega⟩
  ·omega
 ·exact .inl h1
theorem pow_lt9 {k:Nat} (hk:k<10):(1:Int)<=2 ^ k/\(2:Int) ^ k<=512:=by
 rcases (show k=0\/k=1\/k=2\/k=3\/k=4\/k=5\/k=6\/k=7\/k=8\/k=9 by omega) with rfl|rfl|rfl|rfl|rfl|rfl|rfl|rfl|rfl|rfl<;>decide
theorem pl_rng {k:Nat} (hk:k<10) {x:Int} (h0:0<=x):0<=pl k x/\pl k x<=x/\(pl k x=x->x%2 ^ k=0):=by
 obtain⟨p1,p2⟩:=pow_lt9 hk
 unfold pl
 generalize (2:Int) ^ k=q at *
 have h1:=Int.mul_ediv_add_emod x q
 have h3:=Int.emod_nonneg x (show q≠0 by omega)
 have h4:0<=x/q:=Int.ediv_nonneg h0 (by omega)
 have h5:0<=x/q*q:=Int.mul_nonneg h4 (by omega)
 have h6:q*(x/q)=x/q*q:=Int.mul_comm _ _
 exact⟨h5,by omega,fun h=>by omega⟩
theorem k_le8 {k:Nat} {m:Int} (h:(2:Int) ^ k<=m) (hm:m<=256):k<9:=by
 rcases Nat.lt_or_ge k 9 with h1|h1
 ·exact h1
 ·have h2:(2:Nat) ^ 9<=2 ^ k:=Nat.pow_le_pow_right (by decide) h1
  have h3:((2 ^ k:Nat):Int)=(2:Int) ^ k:=by simp
  have h4:(2:Nat) ^ 9=512:=by decide
  omega
theorem bfree_step {p:Nat} {B B1 B2:Nat->Int->Bool} {w wr w1:World} {fp:List Nat} {s m s1 m1 s2 m2 k:Nat} (he:(m2:Int)=(m1:Int)-2 ^ k/\(s2:Int)=(s1:Int)+2 ^ k) (hsm:s1+m1=s+m) (hq:(1:Int)<=2 ^ k) (hk:(2:Int) ^ k<=m1) (ho:Only fp w wr) (hn:∀x:Int,s1<=x->x<s1+m1->¬bF B1 x)
 (hiff:∀x,(bF B1 x\/((s1:Int)<=x/\x<s1+m1))↔(bF B x\/((s:Int)<=x/\x<s+m))) (hB:BuSt p B1 wr fp) (b1:BuSt p B2 w1 fp) (b2:Only fp wr w1) (b3:∀x,bF B2 x↔bF B1 x\/((s1:Int)<=x/\x<s1+2 ^ k)):
 s2+m2=s+m/\BuSt p B2 w1 fp/\Only fp w w1/\(∀x:Int,s2<=x->x<s2+m2->¬bF B2 x)/\∀x,(bF B2 x\/((s2:Int)<=x/\x<s2+m2))↔(bF B x\/((s:Int)<=x/\x<s+m)):=by
 obtain⟨he1,he2⟩:=he
 generalize (2:Int) ^ k=q at *
 refine⟨by omega,b1,ho.trans b2,fun x h1 h2 h3=>?_,fun x=>?_⟩
 ·rcases (b3 x).1 h3 with h|h
  ·exact hn x (by omega) (by omega) h
  ·omega
 ·rw[<-hiff x,b3 x]
  constructor
  ·rintro ((h|h)|h)
   ·exact .inl h
   ·exact .inr ⟨h.1,by omega⟩
   ·exact .inr ⟨by omega,by omega⟩
  ·rintro (h|h)
   ·exact .inl (.inl h)
   ·by_cases h3:x<s2
    ·exact .inl (.inr ⟨h.1,by omega⟩)
    ·exact .inr ⟨by omega,by omega⟩
set_option maxHeartbeats 4000000 in
theorem bfree_at {p:Nat} {B:Nat->Int->Bool} {w:World} {fp:List Nat} (h:BuSt p B w fp) (s m:Nat) (hm:s+m<=256) (hn:∀x:Int,s<=x->x<s+m->¬bF B x):Calls Tryz.prog 177 #[.pointer (some ⟨p,0,none⟩),.int .i64 s,.int .i64 m] w fun e w'=>e=.returned (.tuple #[])/\
 ∃B',BuSt p B' w' fp/\Only fp w w'/\∀x,bF B' x↔bF B x\/((s:Int)<=x/\x<s+m):=by
 have H:=Lib.hid h
 have HN:=Lib.hid hn
 clear h hn
 go_enter Tryz.func177,Tryz.ntmps177
 go_wp2_with fail
 go_loopw[1,2] (fun u v wr=>∃(s1 m1:Nat) (B1:Nat->Int->Bool),u=.int .i64 s1/\v=.int .i64 m1/\s1+m1=s+m/\BuSt p B1 wr fp/\Only fp w wr/\(∀x:Int,s1<=x->x<s1+m1->¬bF B1 x)/\∀x,(bF B1 x\/((s1:Int)<=x/\x<s1+m1))↔(bF B x\/((s:Int)<=x/\x<s+m))) (fun _ v _=>(intOf v).toNat)
 case atStart=>exact⟨s,m,B,rfl,rfl,rfl,H.out,Only.refl _ _,HN.out,fun x=>Iff.rfl⟩
 case round=>
  obtain⟨s1,m1,B1,rfl,rfl,hsm,hb,ho,hn1,hiff⟩:=hrel
  have HB1:=Lib.hid hb
  have HO:=Lib.hid ho
  have HN1:=Lib.hid hn1
  have HIFF:=Lib.hid hiff
  have HSM:=Lib.hid hsm
  have hs1:s1<=256:=by omega
  have hm1:m1<=256:=by omega
  clear hb ho hn1 hiff hsm
  by_cases hp:0<m1
  ·have d1:decide ((0:Int)<m1)=true:=decide_eq_true (by omega)
   have d1':decide (0<m1)=true:=decide_eq_true hp
   go_wp2_with fail
   go_loopw[6] (fun t wr'=>∃k:Nat,t=.int .i64 k/\wr'=wr/\(2:Int) ^ k<=m1/\(s1:Int)%2 ^ k=0) (fun t _=>9-(intOf t).toNat)
   case atStart=>exact⟨0,rfl,rfl,by simp;omega,by simp⟩
   case round=>
    obtain⟨k,rfl,rfl,hk1,hk2⟩:=hrel
    have hk9:=k_le8 hk1 (by omega)
    obtain⟨q1,q2⟩:=pow_le hk9
    obtain⟨r1,r2⟩:=pow_lt9 (show k+1<10 by omega)
    obtain⟨t1,t2,t3⟩:=pl_rng (show k+1<10 by omega) (x:=(s1:Int)) (by omega)
    have w0:IntKind.i64.wrap ((k:Int)+1)=k+1:=IntWalk.i64_in _ (by omega)
    have w1:IntKind.i64.wrap ((s1:Int)/2 ^ (k+1)*2 ^ (k+1))=pl (k+1) s1:=IntWalk.i64_in _ (by unfold pl at t1 t2;omega)
    have w2:IntKind.i64.wrap ((2:Int) ^ (k+1))=2 ^ (k+1):=IntWalk.i64_in _ (by omega)
    have w3:IntKind.i64.wrap ((2:Int) ^ k)=2 ^ k:=IntWalk.i64_in _ (by omega)
    by_cases hc1:pl (k+1) (s1:Int)=s1/\(2:Int) ^ (k+1)<=m1
    ·have e1:(pl (k+1) (s1:Int)==(s1:Int))=true:=by rw[hc1.1];simp
     have d2:decide ((2:Int) ^ (k+1)<=(m1:Int))=true:=decide_eq_true hc1.2
     have HC:=Lib.hid hc1
     have HT:=Lib.hid t3
     generalize pl (k+1) (s1:Int)=pp at *
     clear hc1 t3 t1 t2
     go_wp2_with fail
     go_roundw
     case rel=>exact⟨k+1,by go_num,by first|rfl|trivial,HC.out.2,HT.out HC.out.1⟩
     case measure=>simp[intOf];omega
    ·have hF1:=free1_of (k:=k) (s:=(s1:Int)) (m:=m1) HB1.out.good hk9 (by omega) hk2 hk1 (by have:=HSM.out;omega) HN1.out
     have CA:=Lib.hid (badd_at HB1.out k s1 hF1)
     obtain⟨m2,hm2⟩:∃m2:Nat,(m2:Int)=(m1:Int)-2 ^ k:=⟨((m1:Int)-2 ^ k).toNat,by omega⟩
     obtain⟨s2,hs2⟩:∃s2:Nat,(s2:Int)=(s1:Int)+2 ^ k:=⟨((s1:Int)+2 ^ k).toNat,by omega⟩
     have w4:IntKind.i64.wrap ((s1:Int)+2 ^ k)=s2:=by rw[IntWalk.i64_in _ (by omega)];omega
     have w5:IntKind.i64.wrap ((m1:Int)-2 ^ k)=m2:=by rw[IntWalk.i64_in _ (by omega)];omega
     have HE:=Lib.hid (And.intro hm2 hs2)
     have HQ:=Lib.hid q1
     have HK:=Lib.hid hk1
     by_cases hc2:pl (k+1) (s1:Int)=s1
     ·have e1:(pl (k+1) (s1:Int)==(s1:Int))=true:=by rw[hc2];simp
      have d2:decide ((2:Int) ^ (k+1)<=(m1:Int))=false:=decide_eq_false (fun h=>hc1 ⟨hc2,h⟩)
      generalize pl (k+1) (s1:Int)=pp at *
      clear hc1 hc2 t3 t1 t2 hF1 hm2 hs2 hk2
      go_wp2_with fail
      refine CA.out.mono ?_
      rintro e w1 ⟨rfl,B2,b1,b2,b3⟩
      have E:=Lib.hid (bfree_step HE.out HSM.out HQ.out HK.out HO.out HN1.out HIFF.out HB1.out ((BuSt.framed p B2).still b1 (Only.refl [] w1).drew) b2.drew b3)
      clear b1 b2 b3 CA
      go_wp2_with fail
      go_region
      go_wp2_with fail
      go_roundw
      case rel=>exact⟨s2,m2,B2,by go_num,by go_num,E.out⟩
      case measure=>have:=HE.out;have:=HQ.out;simp[intOf];omega
     ·have e1:(pl (k+1) (s1:Int)==(s1:Int))=false:=by simpa using hc2
      generalize pl (k+1) (s1:Int)=pp at *
      clear hc1 hc2 t3 t1 t2 hF1 hm2 hs2 hk2
      go_wp2_with fail
      refine CA.out.mono ?_
      rintro e w1 ⟨rfl,B2,b1,b2,b3⟩
      have E:=Lib.hid (bfree_step HE.out HSM.out HQ.out HK.out HO.out HN1.out HIFF.out HB1.out ((BuSt.framed p B2).still b1 (Only.refl [] w1).drew) b2.drew b3)
      clear b1 b2 b3 CA
      go_wp2_with fail
      go_region
      go_wp2_with fail
      go_roundw
      case rel=>exact⟨s2,m2,B2,by go_num,by go_num,E.out⟩
      case measure=>have:=HE.out;have:=HQ.out;simp[intOf];omega
  ·have e:m1=0:=by omega
   subst e
   have d1:decide ((0:Int)<((0:Nat):Int))=false:=by decide
   go_wp2_with fail
   go_end0
   exact⟨rfl,B1,HB1.out,HO.out,fun x=>by rw[<-HIFF.out x];constructor;exact .inl;rintro (h|h);exact h;omega⟩
theorem bcheck_at {p:Nat} {B:Nat->Int->Bool} {w:World} {fp:List Nat} (h:BuSt p B w fp) (s m:Nat) (hm0:0<m) (hm:s+m<=256):Still Tryz.prog 175 #[.pointer (some ⟨p,0,none⟩),.int .i64 s,.int .i64 m] w (.int .i64 0):=by
 have CM:=Lib.hid (bmade_at h)
 obtain⟨h1,g,cp,mm,c,a1,a2,a3,a4,a5,a6,a7,a8⟩:=h
 have z0:=a1.cell_ 0 rfl
 have d1:decide ((s:Int)<0)=false:=decide_eq_false (by omega)
 have d2:decide ((m:Int)<1)=false:=decide_eq_false (by omega)
 have d2':decide (m<1)=false:=decide_eq_false (by omega)
 have d3:decide (256<(s:Int))=false:=decide_eq_false (by omega)
 have d4:decide (256-(s:Int)<(m:Int))=false:=decide_eq_false (by omega)
 have hs:s<=256:=by omega
 have hm':m<=256:=by omega
 clear a1 a3 a4 a5 a6 a8 h1 hm
 go_enter Tryz.func175,Tryz.ntmps175
 go_wp2_with (first|(go_at_call 155;with_reducible refine Still.use CM.out ?_))
 go_ret
 exact⟨rfl,rfl⟩
theorem bgive_at {p:Nat} {B:Nat->Int->Bool} {w:World} {fp:List Nat} (h:BuSt p B w fp) (s m:Nat) (hm0:0<m) (hm:s+m<=256) (hn:∀x:Int,s<=x->x<s+m->¬bF B x):Calls Tryz.prog 150 #[.pointer (some ⟨p,0,none⟩),.int .i64 s,.int .i64 m] w fun e w'=>e=.returned (.int .i64 0)/\
 ∃B',BuSt p B' w' fp/\Only fp w w'/\∀x,bF B' x↔bF B x\/((s:Int)<=x/\x<s+m):=by
 have CK:=Lib.hid (bcheck_at h s m hm0 hm)
 have CF:=Lib.hid (bfree_at h s m hm hn)
 have H:=Lib.hid h
 have HN:=Lib.hid hn
 have HM:=Lib.hid hm
 have hs:s<=256:=by omega
 have hm':m<=256:=by omega
 obtain⟨q,hq⟩:∃q:Nat,q=s+m:=⟨_,rfl⟩
 have hqi:IntKind.i64.wrap ((s:Int)+m)=q:=by rw[IntWalk.i64_in _ (by omega)];omega
 have hq2:q<=256:=by omega
 have HQ:=Lib.hid hq
 clear h hn hm hq
 go_enter Tryz.func150,Tryz.ntmps150
 go_wp2_with (first|(go_at_call 175;with_reducible refine Still.use CK.out ?_))
 go_loopw[8] (fun t wr=>∃k:Nat,t=.int .i64 k/\wr=w/\s<=k/\k<=q) (fun t _=>256-(intOf t).toNat)
 case atStart=>exact⟨s,rfl,rfl,Nat.le_refl _,by have:=HQ.out;omega⟩
 case round=>
  obtain⟨k,rfl,rfl,hk1,hk2⟩:=hrel
  by_cases hlt:k<q
  ·have d1:decide ((k:Int)<q)=true:=decide_eq_true (by omega)
   have CI:=Lib.hid (bisFree_at H.out k (by omega))
   have HNF:Hid (¬bF B k):=HN.out k (by omega) (by have:=HQ.out;omega)
   go_wp2_with fail
   refine CI.out.mono ?_
   rintro e w1 ⟨rfl,⟨h1,rfl⟩|⟨h1,rfl⟩⟩
   ·exact absurd h1 HNF.out
   ·clear h1 CI
    go_wp2_with fail
    go_roundw
    case rel=>exact⟨k+1,by go_num,by first|rfl|trivial,by omega,by omega⟩
    case measure=>simp[intOf];omega
  ·have d1:decide ((k:Int)<q)=false:=decide_eq_false (by omega)
   go_wp2_with fail
   refine CF.out.mono ?_
   rintro e w1 ⟨rfl,B2,b1,b2,b3⟩
   have E:=Lib.hid (show ∃B',BuSt p B' w1 fp/\Only fp wr w1/\∀x,bF B' x↔bF B x\/((s:Int)<=x/\x<s+m) from⟨B2,b1,b2,b3⟩)
   clear b1 b2 b3
   go_wp2_with fail
   go_ret
   exact⟨by first|rfl|trivial,E.out⟩
theorem cut_step {B B1 B2 B3 B4:Nat->Int->Bool} {k:Nat} {s p a l:Int} (hp:a<=p/\p<l) (hs:s<=p/\p<s+2 ^ k) (h1:∀x,bF B1 x↔bF B x/\¬(a<=x/\x<p/\x<l)) (h2:∀x,bF B2 x↔bF B1 x/\¬(s<=x/\x<s+2 ^ k)) (hb:B1 k s=true)
 (h3:∀x,bF B3 x↔bF B2 x\/(s<=x/\x<p)) (h4:∀x,bF B4 x↔bF B3 x\/(l<=x/\x<s+2 ^ k)):∀x,bF B4 x↔bF B x/\¬(a<=x/\x<s+2 ^ k/\x<l):=by
 intro x
 have hin:(s<=x/\x<s+2 ^ k)->bF B1 x:=fun h=>⟨k,s,hb,h.1,h.2⟩
 rw[h4,h3,h2,h1]
 rw[h1] at hin
 generalize (2:Int) ^ k=q at *
 constructor
 ·rintro (((⟨a1,a2⟩|a3))|a3)
  ·exact⟨a1.1,by omega⟩
  ·have:=hin (by omega);exact⟨this.1,by omega⟩
  ·have:=hin (by omega);exact⟨this.1,by omega⟩
 ·rintro ⟨a1,a2⟩
  by_cases h5:s<=x/\x<s+q
  ·have h6:=hin h5
   by_cases h7:x<p
   ·exact .inl (.inr ⟨h5.1,h7⟩)
   ·exact .inr ⟨by omega,h5.2⟩
  ·exact .inl (.inl ⟨⟨a1,by omega⟩,h5⟩)
set_option maxHeartbeats 4000000 in
theorem bcut_at {p:Nat} {B:Nat->Int->Bool} {w:World} {fp:List Nat} (h:BuSt p B w fp) (s m:Nat) (hm:s+m<=256) (hn:∀x:Int,s<=x->x<s+m->bF B x):Calls Tryz.prog 159 #[.pointer (some ⟨p,0,none⟩),.int .i64 s,.int .i64 m] w fun e w'=>e=.returned (.tuple #[])/\
 ∃B',BuSt p B' w' fp/\Only fp w w'/\∀x,bF B' x↔bF B x/\¬((s:Int)<=x/\x<s+m):=by
 have H:=Lib.hid h
 have HN:=Lib.hid hn
 have hs:s<=256:=by omega
 have hm':m<=256:=by omega
 obtain⟨q,hq⟩:∃q:Nat,q=s+m:=⟨_,rfl⟩
 have hqi:IntKind.i64.wrap ((s:Int)+m)=q:=by rw[IntWalk.i64_in _ (by omega)];omega
 have hq2:q<=256:=by omega
 have hqm:s<=q:=by omega
 have HQ:=Lib.hid hq
 clear h hn hm hq
 go_enter Tryz.func159,Tryz.ntmps159
 go_wp2_with fail
 go_loopw[6] (fun t wr=>∃(k:Nat) (B1:Nat->Int->Bool),t=.int .i64 k/\s<=k/\k<=256/\BuSt p B1 wr fp/\Only fp w wr/\∀x,bF B1 x↔bF B x/\¬((s:Int)<=x/\x<(k:Int)/\x<(q:Int))) (fun t _=>256-(intOf t).toNat)
 case atStart=>exact⟨s,B,rfl,Nat.le_refl _,by omega,H.out,Only.refl _ _,fun x=>⟨fun h=>⟨h,by omega⟩,fun h=>h.1⟩⟩
 case round=>
  obtain⟨k,B1,rfl,hk1,hk2,hb,ho,hiff⟩:=hrel
  have HO:=Lib.hid ho
  have HIFF:=Lib.hid hiff
  have HB:=Lib.hid hb
  by_cases hlt:k<q
  ·have d1:decide ((k:Int)<q)=true:=decide_eq_true (by omega)
   have CC:=Lib.hid (bcovered_at hb k (by omega))
   have HFK:Hid (bF B1 k):=(hiff k).2 ⟨HN.out k (by omega) (by have:=HQ.out;omega),by omega⟩
   clear hb ho hiff
   go_wp2_with fail
   refine CC.out.mono ?_
   rintro e w1 ⟨rfl,⟨j,t,h1,h2,h3,rfl⟩|⟨h1,rfl⟩⟩
   case inr=>exact absurd HFK.out h1
   obtain⟨hj,t0,t1,t2⟩:=HB.out.good.wf j t h1
   obtain⟨p1,p2⟩:=pow_le hj
   obtain⟨t',rfl⟩:∃t':Nat,t=t':=⟨t.toNat,by omega⟩
   obtain⟨e1,he⟩:∃e1:Nat,(e1:Int)=(t':Int)+2 ^ j:=⟨((t':Int)+2 ^ j).toNat,by omega⟩
   obtain⟨v,hv⟩:∃v:Nat,(v:Int)=(k:Int)-t':=⟨((k:Int)-t').toNat,by omega⟩
   have w1:IntKind.i64.wrap ((2:Int) ^ j)=2 ^ j:=IntWalk.i64_in _ (by omega)
   have w2:IntKind.i64.wrap ((t':Int)+2 ^ j)=e1:=by rw[IntWalk.i64_in _ (by omega)];omega
   have w3:IntKind.i64.wrap ((k:Int)-t')=v:=by rw[IntWalk.i64_in _ (by omega)];omega
   have he2:e1<=256:=by omega
   have hke:k<e1:=by omega
   have hv2:t'+v<=256:=by omega
   have hv3:v<=256:=by omega
   have HV:=Lib.hid (And.intro he hv)
   have HT:=Lib.hid (And.intro h2 h3)
   have HJ:=Lib.hid h1
   have ht3:t'<=256:=by omega
   clear h1 h2 h3 he hv t0 t1 t2 CC HFK
   obtain⟨g1,g,cp,mm,c,a1,a2,a3,a4,a5,a6,a7,a8⟩:=HB.out
   have z1:=a1.cell_ 1 rfl
   have c0:=a3.cell hj
   have HI:=Lib.hid (a4 j hj)
   have hjs:I64 (t':Int):=by unfold I64;omega
   have A1:=Lib.hid a1
   have A3:=Lib.hid a3
   have A4:=Lib.hid a4
   have A5:=Lib.hid a5
   have A6:=Lib.hid a6
   have A8:=Lib.hid a8
   have HG:=Lib.hid g1
   have hji:(j:Int)<9:=by omega
   clear a1 a3 a4 a5 a6 a8 g1 p1 p2
   go_wp2_with (at_delete;refine wpList_del rfl _ _ 174 4 rfl und_mib rfl HI.out rfl hjs ?_;intro wd ho3 hI3)
   obtain⟨d1,d2⟩:=BuSt.turn1 (B':=bDel B1 j (t':Int)) (k:=j) (bDel_good HG.out) A1.out a2 A3.out A4.out A5.out A6.out a7 A8.out hj ho3 (hI3.ext (fun s=>bG_del s)) (fun j hj s=>bDel_other j hj s)
   have D3:=Lib.hid (fun x=>bDel_free (p:=x) HG.out HJ.out)
   have D1:=Lib.hid d1
   have D2:=Lib.hid (HO.out.trans d2)
   have CF:=Lib.hid (bfree_at d1 t' v hv2 (fun x h1 h2 h3=>by have:=(D3.out x).1 h3;have:=HT.out;have:=HV.out;omega))
   clear d1 d2 ho3 hI3 HI A1 A3 A4 A5 A6 A8 z1 c0
   refine CF.out.mono ?_
   rintro e wf ⟨rfl,B3,f1,f2,f3⟩
   have hee:IntKind.i64.wrap ((s:Int)+m)=q:=hqi
   by_cases hlast:q<e1
   ·have d2:decide ((q:Int)<e1)=true:=decide_eq_true (by omega)
    obtain⟨z,hz⟩:∃z:Nat,z=e1-q:=⟨_,rfl⟩
    have wz:IntKind.i64.wrap ((e1:Int)-q)=z:=by rw[IntWalk.i64_in _ (by omega)];omega
    have CG:=Lib.hid (bfree_at f1 q z (by omega) (fun x h1 h2 h3=>by
     rcases (f3 x).1 h3 with h4|h4
     ·have:=(D3.out x).1 h4;have:=HT.out;have:=HV.out;omega
     ·have:=HV.out;omega))
    have hz2:z<=256:=by omega
    have F2:=Lib.hid (D2.out.trans f2)
    have F3:=Lib.hid f3
    have HZ:=Lib.hid hz
    clear f1 f2 f3 CF hz
    go_wp2_with fail
    refine CG.out.mono ?_
    rintro e wg ⟨rfl,B4,g1,g2,g3⟩
    have E:=Lib.hid (show s<=e1/\e1<=256/\BuSt p B4 wg fp/\Only fp w wg/\∀x,bF B4 x↔bF B x/\¬((s:Int)<=x/\x<(e1:Int)/\x<(q:Int)) from⟨by omega,he2,g1,F2.out.trans g2,fun x=>by
     have:=cut_step (B4:=B4) ⟨show(s:Int)<=k by omega,show(k:Int)<q by omega⟩ HT.out HIFF.out D3.out HJ.out (fun x=>by rw[F3.out x];have:=HV.out;constructor<;>(rintro (h|h);exact .inl h;exact .inr (by omega))) (fun x=>by rw[g3 x];have:=HZ.out;have:=HV.out;constructor<;>(rintro (h|h);exact .inl h;exact .inr (by omega))) x
     rw[this,HV.out.1]⟩)
    clear g1 g2 g3 CG
    go_wp2_with fail
    go_roundw
    case rel=>exact⟨e1,B4,rfl,E.out⟩
    case measure=>simp[intOf];omega
   ·have d2:decide ((q:Int)<e1)=false:=decide_eq_false (by omega)
    have E:=Lib.hid (show s<=e1/\e1<=256/\BuSt p B3 wf fp/\Only fp w wf/\∀x,bF B3 x↔bF B x/\¬((s:Int)<=x/\x<(e1:Int)/\x<(q:Int)) from⟨by omega,he2,f1,D2.out.trans f2,fun x=>by
     have:=cut_step (B4:=B3) ⟨show(s:Int)<=k by omega,show(k:Int)<q by omega⟩ HT.out HIFF.out D3.out HJ.out (fun x=>by rw[f3 x];have:=HV.out;constructor<;>(rintro (h|h);exact .inl h;exact .inr (by omega))) (fun x=>⟨.inl,fun h=>by
      rcases h with h|h
      ·exact h
      ·have:=HV.out;omega⟩) x
     rw[this,HV.out.1]⟩)
    clear f1 f2 f3 CF
    go_wp2_with fail
    go_roundw
    case rel=>exact⟨e1,B3,rfl,E.out⟩
    case measure=>simp[intOf];omega
  ·have d1:decide ((k:Int)<q)=false:=decide_eq_false (by omega)
   have E:=Lib.hid (show ∃B',BuSt p B' wr fp/\Only fp w wr/\∀x,bF B' x↔bF B x/\¬((s:Int)<=x/\x<s+m) from⟨B1,hb,ho,fun x=>(hiff x).trans (by have:=HQ.out;constructor<;>exact fun h=>⟨h.1,by have:=h.2;omega⟩)⟩)
   clear hb ho hiff
   go_wp2_with fail
   go_end0
   exact⟨rfl,E.out⟩
end Go.Proofs.YtcidjimefnhacaaGreatDoor
