/- TopSchedules, a part of the proof: GZ, GJ, GI, GN. -/
import Derived.Test.YtcidjimefnhacaaGreatDoorM27
set_option linter.unusedVariables false
set_option linter.unusedSimpArgs false
namespace Go.Proofs.YtcidjimefnhacaaGreatDoor
open Go.RowKit
def isIf:TypeDesc->Bool
 | .interface _=>true
 |_=>false
theorem ta_yes {T:TypeId} {d:TypeDesc} (hu:Tryz.prog.underlying T=some d) (hd:isIf d=false) (v:Value) (W:World):(Instr.typeAssert (.iface T v) 116 T true).run Tryz.prog W=.ok (.tuple #[v,.bool true]) W:=by
 unfold Instr.typeAssert
 cases d with
 |interface m=>cases hd
 |_=>simp[run_underlying hu,Result.andThen]
theorem ta_no {T T':TypeId} {d:TypeDesc} (hu:Tryz.prog.underlying T=some d) (hd:isIf d=false) (hne:T'≠T) {z:Value} (hz:∀W,(zeroValue T).run Tryz.prog W=.ok z W) (v:Value) (W:World):(Instr.typeAssert (.iface T' v) 116 T true).run Tryz.prog W=.ok (.tuple #[z,.bool false]) W:=by
 unfold Instr.typeAssert
 cases d with
 |interface m=>cases hd
 |_=>simp[run_underlying hu,Result.andThen,hne,hz]
theorem z_take (W:World):(zeroValue 191).run Tryz.prog W=.ok (.agg #[.int .i64 0]) W:=by kernel_rfl
theorem z_transfer (W:World):(zeroValue 194).run Tryz.prog W=.ok (.agg #[.int .i64 0,.int .i64 0]) W:=by kernel_rfl
theorem z_central (W:World):(zeroValue 200).run Tryz.prog W=.ok (.agg #[.int .i64 0,.int .i64 0]) W:=by kernel_rfl
theorem z_grow (W:World):(zeroValue 202).run Tryz.prog W=.ok (.agg #[.int .i64 0,.int .i64 0]) W:=by kernel_rfl
theorem z_fill (W:World):(zeroValue 199).run Tryz.prog W=.ok (.agg #[]) W:=by kernel_rfl
theorem z_large (W:World):(zeroValue 208).run Tryz.prog W=.ok (.agg #[.int .i64 0]) W:=by kernel_rfl
theorem z_find (W:World):(zeroValue 211).run Tryz.prog W=.ok (.agg #[.int .i64 0]) W:=by kernel_rfl
theorem z_put (W:World):(zeroValue 214).run Tryz.prog W=.ok (.agg #[.int .i64 0,.int .i64 0]) W:=by kernel_rfl
theorem z_back (W:World):(zeroValue 217).run Tryz.prog W=.ok (.agg #[]) W:=by kernel_rfl
theorem z_give (W:World):(zeroValue 221).run Tryz.prog W=.ok (.agg #[.int .i64 0,.int .i64 0]) W:=by kernel_rfl
theorem stCells {P:Hp} {Sc:HS} {w W:World} {FP:List Nat} {Ls:World->List Nat->Prop} {bx:List (Nat×TypeId×Array Value)} {na j:Nat} (hna:P.na=na) (hj:j<na) (h:Ctx P Sc w FP Ls bx W):
 W.cell? ⟨P.h,7,none⟩=some (.slice (some ⟨P.gA,0,none⟩) na P.cA)/\W.cell? ⟨P.gA,j,none⟩=some (.pointer (some ⟨P.ar j,0,none⟩)):=by
 obtain⟨FPc,hs⟩:=h.sys_
 subst hna
 exact⟨hs.hcells.c7,hs.arp hj⟩
theorem thCells {P:Hp} {Sc:HS} {w W:World} {FP:List Nat} {Ls:World->List Nat->Prop} {bx:List (Nat×TypeId×Array Value)} {t:Nat} (ht:t<P.nt) (h:Ctx P Sc w FP Ls bx W):
 W.cell? ⟨P.gT,t*3,none⟩=some (.pointer (some ⟨P.cq t,0,none⟩))/\W.cell? ⟨P.gT,t*3+1,none⟩=some (Sc.hv t)/\W.frozen? ⟨P.gT,t*3+1,none⟩=false:=by
 obtain⟨FPc,hs⟩:=h.sys_
 obtain⟨h1,h2,_,h4⟩:=hs.trow ht
 exact⟨h1,h2,h4 _⟩
theorem tbCells {P:Hp} {Sc:HS} {w W:World} {FP:List Nat} {Ls:World->List Nat->Prop} {bx:List (Nat×TypeId×Array Value)} {k:Nat} (hk:k<P.T.length) {sz bt:Int} (hsz:(Z.cAt P.T k).s=sz) (hbt:(Z.cAt P.T k).b=bt) (h:Ctx P Sc w FP Ls bx W):
 W.cell? ⟨P.h,0,none⟩=some (.slice (some P.ta) P.T.length P.tc)/\W.cell? (P.ta.add (k*3))=some (.int .i64 sz)/\W.cell? ⟨(P.ta.add (k*3)).block,(P.ta.add (k*3)).off+2,none⟩=some (.int .i64 bt):=by
 subst hsz hbt
 obtain⟨FPc,hs⟩:=h.sys_
 obtain⟨h1,h2,h3,h4⟩:=hs.htab hk
 exact⟨hs.hcells.c0,h1,h3⟩
theorem bxCell {P:Hp} {Sc:HS} {w W:World} {FP:List Nat} {Ls:World->List Nat->Prop} {bx:List (Nat×TypeId×Array Value)} {b:Nat} {t:TypeId} {cs:Array Value} (h:Ctx P Sc w FP Ls bx W) (hb:(b,t,cs)∈bx) (i:Nat) {u:Value} (hu:cs[i]? =some u):W.cell? ⟨b,i,none⟩=some u/\W.frozen? ⟨b,i,none⟩=false:=⟨(h.box hb).cell_ i hu,(h.box hb).frozen i⟩
theorem HS.cac_cac (S:HS) (t:Nat) (C C':Int->Option CE):(S.cac t C).cac t C'=S.cac t C':=by unfold HS.cac;rw[upd_twice]
theorem Ctx.res {P:Hp} {Sc:HS} {w W:World} {FP:List Nat} {bx:List (Nat×TypeId×Array Value)} (h:Ctx P Sc w FP NoL bx W) {b:Nat} (hb:(b,66,#[.int .i64 0,.int .i64 0])∈bx) (h1:w.heap.size<=b) (h3:3<=b) (bx':List (Nat×TypeId×Array Value)) (hbx:∀x∈bx',x∈bx/\x.1≠b) (x y:Int):
 Ctx P Sc w FP NoL ((b,66,#[.int .i64 x,.int .i64 y])::bx') ((W.setCell ⟨b,0,none⟩ (.int .i64 x)).setCell ⟨b,1,none⟩ (.int .i64 y)):=
 ((h.less (bx':=(b,66,#[.int .i64 0,.int .i64 0])::bx') (fun z hz=>(List.mem_cons.1 hz).elim (fun e=>e▸hb) (fun hz=>(hbx z hz).1))).setBox (fun z hz=>(hbx z hz).2) h1 h3 0 (.int .i64 x)).setBox (fun z hz=>(hbx z hz).2) h1 h3 1 (.int .i64 y)
theorem upd2_same {α:Type} (f:Nat->Nat->α) (a k:Nat):upd2 f a k (f a k)=f:=by
 funext j m
 unfold upd2
 split
 ·rename_i e;rw[e.1,e.2]
 ·rfl
theorem Ctx.setBoxF {P:Hp} {Sc:HS} {w W:World} {FP:List Nat} {Ls:World->List Nat->Prop} {bx:List (Nat×TypeId×Array Value)} {b:Nat} {t:TypeId} {cs:Array Value} (F:Framed Ls) (h:Ctx P Sc w FP Ls ((b,t,cs)::bx) W) (hnb:∀x∈bx,x.1≠b) (hnw:w.heap.size<=b) (h3:3<=b) (i:Nat) (u:Value):Ctx P Sc w FP Ls ((b,t,cs.setIfInBounds i u)::bx) (W.setCell ⟨b,i,none⟩ u):=by
 obtain⟨h0,h1,⟨FPc,fs,h2,hL,h4,h5,h6⟩,h7⟩:=h
 have ho:Only [b] W (W.setCell ⟨b,i,none⟩ u):=(Only.refl [b] W).setCell (p:=⟨b,i,none⟩) (.inl (by simp)) _
 have hb:=h6 (b,t,cs) (by simp)
 refine⟨h0,h1.setCell (p:=⟨b,i,none⟩) (.inr hnw) _,⟨FPc,fs,h2.only ho (fun x hx e=>?_) (by simpa using h3),F.only hL ho (fun x hx e=>?_),h4,h5,fun x hx=>?_⟩,fun x hx=>?_⟩
 ·simp at e
  subst e
  exact hb.1 hx
 ·simp at e
  subst e
  exact hb.2 hx
 ·rcases List.mem_cons.1 hx with rfl|hx
  ·exact hb
  ·exact h6 x (mcm _ hx)
 ·rcases List.mem_cons.1 hx with rfl|hx
  ·exact(h7 (b,t,cs) (by simp)).set_ i u
  ·exact(h7 x (mcm _ hx)).only ho (by simpa using hnb x hx)
theorem Ctx.resF {P:Hp} {Sc:HS} {w W:World} {FP:List Nat} {Ls:World->List Nat->Prop} {bx:List (Nat×TypeId×Array Value)} (F:Framed Ls) (h:Ctx P Sc w FP Ls bx W) {b:Nat} (hb:(b,66,#[.int .i64 0,.int .i64 0])∈bx) (h1:w.heap.size<=b) (h3:3<=b) (bx':List (Nat×TypeId×Array Value)) (hbx:∀x∈bx',x∈bx/\x.1≠b) (x y:Int):
 Ctx P Sc w FP Ls ((b,66,#[.int .i64 x,.int .i64 y])::bx') ((W.setCell ⟨b,0,none⟩ (.int .i64 x)).setCell ⟨b,1,none⟩ (.int .i64 y)):=
 ((h.less (bx':=(b,66,#[.int .i64 0,.int .i64 0])::bx') (fun z hz=>(List.mem_cons.1 hz).elim (fun e=>e▸hb) (fun hz=>(hbx z hz).1))).setBoxF F (fun z hz=>(hbx z hz).2) h1 h3 0 (.int .i64 x)).setBoxF F (fun z hz=>(hbx z hz).2) h1 h3 1 (.int .i64 y)
theorem wpList_slice_from2 {P:Program} {w:World} {ops:Array Oper} {rest:List Oper} {o:Oper} {a:Act} {Q:Exit->Act->World->Prop} (hgd:o.guard=none) (t:TypeId) (x y:Operand)
 (ho:o.op=.slice t x (some y) none none) (e:TypeId) (hte:P.elem t=e) (ht:P.underlying t=some (.slice e)) (i:TypeInfo) (hi:P.info? e=some i) (hsize:i.size=2)
 (ad:Option Addr) (len cap k:Nat) (hx:a.eval x=.slice ad len cap) (hy:a.eval y=.int .i64 (k:Nat)) (hk:k<=len)
 (h:∀v,v=sliced ad k len cap 2->wpList P ops Q rest (a.put o.dst v) w):wpList P ops Q (o::rest) a w:=by
 subst hte
 refine wpList_plain hgd fun K hK=>?_
 unfold Oper.wp
 have hr:=run_slice_l (P:=P) w t ad len cap ht .i64 (k:Int) (by omega) (by omega)
 have hs:=run_sliceAt_slice (P:=P) w t
 have hsz:(sizeOf (P.elem t)).run P w=.ok 2 w:=by simp[sizeOf,typeInfo,hi,hsize]
 simp only[hsz,Result.andThen_ok,Int.toNat_natCast] at hr
 simp only[execOp,ho,Option.map_none,Option.map_some,hx,hy,hs _ _ _ _ ht,hr,Sem.run_bind,Sem.run_pure,Result.andThen_ok]
 exact hK _ _ (h _ rfl)
theorem elem_bts:Tryz.prog.elem 114=205:=by kernel_rfl
theorem sliced2_form (g off n c:Nat):∃A,sliced (some ⟨g,off,none⟩) 1 (n+1) c 2=.slice A n (c-1)/\(A=some ⟨g,off,none⟩/\c=1\/A=some ⟨g,off+2,none⟩):=by
 unfold sliced
 by_cases h:c=1
 ·rw[if_pos h];exact⟨_,rfl,.inl ⟨rfl,h⟩⟩
 ·rw[if_neg h]
  refine⟨_,rfl,.inr ?_⟩
  rw[Option.map_some,add_pl]
theorem HaSt.uncons2 {n:Nat} {v:Value} {b:HB} {L:List HB} {w:World} {f:List Nat} (h:HaSt n v (b::L) w f):∃b0,b0∈f/\OSt b.v b.o w [b0]/\∃g off c,v=.slice (some ⟨g,off,none⟩) (L.length+1) c/\L.length+1<=c/\w.cell? ⟨g,off,none⟩=some (.int .i64 (b.k:Nat))/\w.cell? ⟨g,off+1,none⟩=some b.v/\b.ok n/\L.length<=99/\
 (∃A,sliced (some ⟨g,off,none⟩) 1 (L.length+1) c 2=.slice A L.length (c-1))/\HaSt n (sliced (some ⟨g,off,none⟩) 1 (L.length+1) c 2) L w (f.filter (fun x=>decide (x≠b0))):=by
 have hln:=h.ln
 have hok:=h.ok b (by simp)
 have hlt:=h.lt
 obtain⟨b0,q1,q2,q3,g,off,c,cs,q4,q5,q6,q7,q8,q9,_⟩:=h.uncons
 obtain⟨A,hA,hc⟩:=sliced2_form g off L.length c
 simp at hln
 refine⟨b0,q1,q3,g,off,c,q4,q5,q6.cell_ _ q7,q6.cell_ _ q8,hok,by omega,⟨A,hA⟩,?_⟩
 rw[hA]
 rcases hc with ⟨rfl,rfl⟩|rfl
 ·have hL:L=[]:=List.eq_nil_of_length_eq_zero (by omega)
  subst hL
  obtain⟨⟨A',c',fs,h1,h2,h3,h4,h5,h6⟩,h7,h8,h9,h10⟩:=q9
  refine⟨⟨_,0,fs,rfl,Nat.le_refl _,(fun e=>by cases e),h4,h5,fun a ha=>?_⟩,h7,h8,h9,h10⟩
  injection ha with ha
  simp at h1
  obtain⟨e1,e2⟩:=h1
  obtain⟨g',off',cs',k1,k2,k3,k4,k5,_⟩:=h6 ⟨g,off+2,none⟩ e1.symm
  injection k1 with k1 k6 _
  subst k1
  refine⟨g,off,cs',ha.symm,k2,k3,k4,by omega,fun j x hx=>by simp[cellsH] at hx⟩
 ·exact q9
theorem own0_2 (w:World):(w.alloc (.cells #[] 205)).ownsRow w.heap.size 205 2 (.slice (some ⟨w.heap.size,0,none⟩) 0 0) 0 []:=
 ⟨rfl,.inr ⟨w.heap.size,0,#[],rfl,Nat.le_refl _,Blk.new w _ _,Nat.le_refl _,by unfold maxLen;omega,rfl,rfl⟩⟩
set_option maxHeartbeats 1000000 in
theorem bclone_at {n:Nat} {v:Value} {L:List HB} {w:World} {f:List Nat} (h:HaSt n v L w f):Calls Tryz.prog 96 #[v] w fun e w'=>∃v',e=.returned v'/\(∃A c,v'=.slice A L.length c)/\Only [] w w'/\∃f',HaSt n v' L w' f'/\∀b∈f',b∈f\/w.heap.size<=b:=by
 have hln:=h.ln
 have HH:=Lib.hid h
 obtain⟨A,c,fs,rfl,h2,h3,h4,h5,h6⟩:=h.opened
 obtain⟨i0,hi,hz0,hz1,hz2⟩:=info_parts info_bt
 have HR:=Lib.hid h4
 have HF:=Lib.hid h5
 have H1:Hid (∀u∈cellsH L,u.oneCell'=true):=by
  intro u hu
  unfold cellsH at hu
  obtain⟨b,hb,hu⟩:=List.mem_flatMap.1 hu
  obtain⟨A',c',e,_⟩:=(h4 b hb).form
  simp[encN,HB.kv] at hu
  rcases hu with rfl|rfl
  ·rfl
  ·rw[e];rfl
 have HLEN:Hid ((cellsH L).length=L.length*2):=cellsH_len L
 cases A with
 |none=>
  obtain⟨h0,rfl⟩:=h3 rfl
  have HL:Hid (L=[]):=List.eq_nil_of_length_eq_zero h0
  rw[h0]
  have hnil:=Lib.run_eql_slice_nil (P:=Tryz.prog) w 114 205 none 0 0 0 0 Tryz.underlying114
  clear h h2 h3 h4 h5 h6 h0
  go_enter Tryz.func96,Tryz.ntmps96
  go_wp2_with fail
  go_ret
  exact⟨_,rfl,⟨none,0,rfl⟩,Only.refl _ _,[],by rw[HL.out];exact HaSt.nil n w,fun b hb=>by cases hb⟩
 |some ad=>
  obtain⟨g,off,cs,rfl,_,hB,hsz,hcs⟩:=h6 ad rfl
  have hnil:=Lib.run_eql_slice_nil (P:=Tryz.prog) w 114 205 (some ⟨g,off,none⟩) L.length c 0 0 Tryz.underlying114
  have HC:Hid (∀j (u:Value),(cellsH L)[j]? =some u->(w.alloc (.cells #[] 205)).cell? ((⟨g,off,none⟩:Addr).add j)=some u):=fun j u hu=>by
   rw[add_pl]
   exact(hB.alloc _).cell_ _ (hcs j u hu)
  generalize hn:L.length=m at *
  have HN:=Lib.hid hn
  clear h h2 h3 h4 h5 h6 hB hsz hcs hn
  go_enter Tryz.func96,Tryz.ntmps96
  go_wp2_with (at_builtin;refine wpList_append_own _ rfl _ _ 114 rfl w.heap.size 205 i0 (.agg #[.int .i64 0,.slice none 0 0]) 2 32 Tryz.underlying114 hi hz0 hz1 hz2 rfl (by decide) _ _ _ rfl (own0_2 w) ⟨g,off,none⟩ m c (cellsH L) rfl HLEN.out HC.out H1.out (by unfold maxLen;omega) (by omega) (by simp) ?_;intro v1 w1 hown1 hg1 _)
  go_ret
  have hon:=((Only.refl [] w).alloc (.cells #[] 205)).grown hg1 (fun k hk=>.inr (own_base (own0_2 w) k hk))
  obtain⟨A',c',e',_⟩:=own_slice hown1
  have hown2:w1.ownsRow w.heap.size 205 2 v1 L.length (cellsH L):=by rw[HN.out];simpa using hown1
  have hfl:∀b∈fs,b<w.heap.size:=fun b hb=>HH.out.lt b (HF.out b hb)
  refine⟨v1,rfl,⟨A',c',by rw[e'];simp⟩,hon,v1.ownBlock.toList++fs,HaSt.of_own hown2 (HR.out.only hon (by simp)) (fun g hg hb=>by have:=own_base hown2 g hg;have:=hfl g hb;omega) HH.out.ok HH.out.ln (fun b hb=>Nat.lt_of_lt_of_le (hfl b hb) hon.size) HH.out.nd,fun b hb=>?_⟩
  rcases List.mem_append.1 hb with h|h
  ·exact .inr (own_base hown2 b (Option.mem_toList.1 h))
  ·exact .inl (HF.out b h)
theorem hcBG_at {P:Hp} {S:HS} {w:World} {FP:List Nat} (h:HSys P S w FP) {t:Nat} (ht:t<P.nt) {F:FuncId} (hF:∀{q:Nat} {T:List Z.Cl} {bud:Int} {C:Int->Option CE} {w:World} {fp:List Nat},CaSt q T bud C w fp->Calls Tryz.prog F #[.pointer (some ⟨q,0,none⟩)] w (BGave q T bud C w fp)):
 Calls Tryz.prog F #[.pointer (some ⟨P.cq t,0,none⟩)] w fun e w'=>∃x:(Int->Option CE)×Value×List HB,(e=.returned x.2.1/\(∃A c,x.2.1=.slice A x.2.2.length c)/\x.2.2.length<=40/\∀k a,ctok x.1 k a+htok x.2.2 k a=ctok (S.C t) k a)/\Gives (HSys P (S.cac t x.1)) (HaSt P.T.length x.2.1 x.2.2) w FP w':=by
 obtain⟨f,hf,_,_,hg⟩:=h.cache ht
 refine(hF hf).mono ?_
 rintro e w' ⟨v,L,C1,fp1,fs,rfl,q1,q2,q3,q4,q5,q6,q7,q8,q9,q10,q11⟩
 obtain⟨A,c,hv,_⟩:=own_slice q3
 refine⟨(C1,v,L),⟨rfl,⟨A,c,hv⟩,q9,q11⟩,hg C1 _ w' ⟨q1,fp1,v.ownBlock.toList++fs,q2,HaSt.of_own q3 q4 (fun g hg=>(q7 g hg).2) q8 (Nat.le_trans q9 (by decide)) (fun b hb=>(q6 b hb).2.1) q10,q5,fun b hb=>?_⟩⟩
 rcases List.mem_append.1 hb with h1|h1
 ·exact⟨.inr (own_base q3 b (Option.mem_toList.1 h1)),(q7 b (Option.mem_toList.1 h1)).1⟩
 ·exact⟨.inr (q6 b h1).1,(q6 b h1).2.2⟩
theorem Ctx.takeL {P:Hp} {Sc:HS} {w W:World} {FP:List Nat} {v:Value} {L:List HB} {bx:List (Nat×TypeId×Array Value)} (h:Ctx P Sc w FP (HaSt P.T.length v L) bx W) {t:Nat} (ht:t<P.nt):Ctx P (Sc.hnd t v L) w FP NoL bx (W.setCell ⟨P.gT,t*3+1,none⟩ v):=by
 obtain⟨f,fs,h1,h2,h3,h4,h5,h6,h7⟩:=h.hands (HaSt.framed _ _ _) ht
 exact h7 v L W fs (Only.refl _ _) h2 (fun b hb=>.inr (.inl hb))
set_option maxRecDepth 100000 in
set_option maxHeartbeats 8000000 in
theorem hsDrain_at {P:Hp} {S:HS} {w:World} {FP:List Nat} (h:HSys P S w FP) {t:Nat} (ht:t<P.nt):
 Calls Tryz.prog 77 #[.pointer (some ⟨P.h,0,none⟩),.int .i64 t,Ph.drain.val] w fun e w'=>∃C' v L,(∀k a,ctok C' k a+htok L k a=ctok (S.C t) k a)/\L.length<=40/\Turns (HSys P ((S.cac t C').hnd t v L)) w FP w'/\e=.returned (.tuple #[if L=[] then Ph.none.val else Ph.back.val,.agg #[.int .i64 0,.int .i64 0]]):=by
 have c0:=(Ctx.start h).push NoL.framed #[.int .i64 0,.int .i64 0] 66
 have HC0:=Lib.hid c0
 have HT:=Lib.hid ht
 obtain⟨FP0,hs0⟩:=c0.sys_
 have z8:=hs0.hcells.c8
 obtain⟨n1,n2,n3,n4,n5,n6,n7,n8,n9⟩:=h.nums
 have HB3:=Lib.hid h.big
 have CT:=Lib.hid (fun (W:World) (bx:List (Nat×TypeId×Array Value)) (hc:Ctx P S w FP NoL bx W)=>hc.callG (fun FPc hs=>hcBG_at hs ht (F:=99) (fun h=>cdrain_at h)))
 have CR:=Lib.hid (fun (W:World) (S2:HS) (bx:List (Nat×TypeId×Array Value)) (hc:Ctx P S2 w FP NoL bx W)=>hc.sys_.elim (fun FPd hs=>hret_at hs ht))
 have CW:=Lib.hid (fun (W:World) (hc:Ctx P S w FP NoL [(w.heap.size,66,#[.int .i64 0,.int .i64 0])] W)=>hc.sys_.elim (fun FPd hs=>hown_at hs ht))
 have hown:t%P.na<P.na:=Nat.mod_lt _ (by omega)
 clear h c0 hs0
 generalize hnt:P.nt=nt at *
 have HNT:=Lib.hid hnt
 generalize hna:P.na=na at *
 have HNA:=Lib.hid hna
 generalize hq:t%na=q at *
 clear hnt hna hq
 have hta0:=fun W=>ta_no (T:=191) (T':=222) Tryz.underlying191 rfl (by decide) z_take (.agg #[]) W
 have hta1:=fun W=>ta_no (T:=194) (T':=222) Tryz.underlying194 rfl (by decide) z_transfer (.agg #[]) W
 have hta2:=fun W=>ta_no (T:=200) (T':=222) Tryz.underlying200 rfl (by decide) z_central (.agg #[]) W
 have hta3:=fun W=>ta_no (T:=202) (T':=222) Tryz.underlying202 rfl (by decide) z_grow (.agg #[]) W
 have hta4:=fun W=>ta_no (T:=199) (T':=222) Tryz.underlying199 rfl (by decide) z_fill (.agg #[]) W
 have hta5:=fun W=>ta_no (T:=208) (T':=222) Tryz.underlying208 rfl (by decide) z_large (.agg #[]) W
 have hta6:=fun W=>ta_no (T:=211) (T':=222) Tryz.underlying211 rfl (by decide) z_find (.agg #[]) W
 have hta7:=fun W=>ta_no (T:=214) (T':=222) Tryz.underlying214 rfl (by decide) z_put (.agg #[]) W
 have hta8:=fun W=>ta_no (T:=217) (T':=222) Tryz.underlying217 rfl (by decide) z_back (.agg #[]) W
 have hta9:=fun W=>ta_no (T:=221) (T':=222) Tryz.underlying221 rfl (by decide) z_give (.agg #[]) W
 have hta:=fun W=>ta_yes Tryz.underlying222 rfl (.agg #[]) W
 unfold Ph.val
 go_enter Tryz.func77,Tryz.ntmps77
 go_wp2_with fail
 have hbd:=HC0.out.still NoL.framed ((Only.refl [] _).drew)
 go_region_held3 (fun U=>U.cell? ⟨P.h,7,none⟩=some (.slice (some ⟨P.gA,0,none⟩) na P.cA)/\U.cell? ⟨P.gA,q,none⟩=some (.pointer (some ⟨P.ar q,0,none⟩)))
  (exact stCells HNA.out hown (by assumption))
  (first
   |(go_at_call 81;with_reducible refine Still.use (CW.out _ hbd) ?_))
 generalize (w.alloc (.cells #[.int .i64 0,.int .i64 0] 66)).drew=W1 at *
 clear CW HC0 z8
 have HB1:Hid (¬W1.heap.size=w.heap.size):=Nat.ne_of_gt (hbd.box (x:=(w.heap.size,66,#[.int .i64 0,.int .i64 0])) (by simp)).lt
 replace hbd:=hbd.push NoL.framed #[] 222
 generalize hb1:W1.heap.size=b1 at *
 have g0:=(thCells (by rw[HNT.out];exact HT.out) hbd).1
 have HBD:=Lib.hid hbd
 clear hbd
 go_wp2_with fail
 refine(CT.out _ _ HBD.out).mono ?_
 rintro r wN ⟨⟨C',v,L⟩,⟨hr,hv,hL,htk⟩,hbd⟩
 dsimp only at hr hv hL htk hbd
 have HC2:=Lib.hid (hbd.takeL (by rw[HNT.out];exact HT.out))
 obtain⟨A,c,rfl⟩:=hv
 subst hr
 obtain⟨q0,q1,q2⟩:=thCells (t:=t) (by rw[HNT.out];exact HT.out) hbd
 obtain⟨A0,n0,c0,e0⟩:∃A n c,(S.cac t C').hv t=.slice A n c:=by
  obtain⟨FPd,hs⟩:=hbd.sys_
  obtain⟨f,hf,_⟩:=hs.turn (.han t)
  obtain⟨⟨A,c,fs,e1,_⟩,_⟩:=hf.1 (by rw[HNT.out];exact HT.out)
  exact⟨A,_,c,e1⟩
 rw[e0] at q1
 have HTK:=Lib.hid (And.intro htk hL)
 have HR2:=Lib.hid (CR.out _ _ _ HC2.out)
 have HN0:Hid (L=[]↔L.length=0):=List.length_eq_zero_iff.symm
 rw[show((S.cac t C').hnd t (.slice A L.length c) L).H t=L from upd_at] at HR2
 obtain⟨r0,f0⟩:=bxCell HC2.out (mcm _ (mcs ..)) 0 rfl
 obtain⟨r1,f1⟩:=bxCell HC2.out (mcm _ (mcs ..)) 1 rfl
 have HBR:=Lib.hid (HC2.out.res (b:=w.heap.size) (mcm _ (mcs ..)) (Nat.le_refl _) HB3.out [] (fun x hx=>by cases hx) 0 0)
 clear hbd CT HBD htk g0 hL HC2 CR
 by_cases hz:L=[]
 ·rw[if_pos hz] at HR2
  have HZ:=Lib.hid hz
  generalize hlen:L.length=ln at *
  have HLN:=Lib.hid hlen
  clear hz hlen
  unfold Ph.val at HR2
  go_wp2_with (first|(go_at_call 95;with_reducible refine Still.use HR2.out ?_))
  refine bodyPost_ret (results_pr rfl rfl (bxCell HBR.out (mcs ..) 0 rfl).1 (bxCell HBR.out (mcs ..) 1 rfl).1) rfl ?_
  refine⟨C',_,L,HTK.out.1,by rw[HLN.out];exact HTK.out.2,HBR.out.turns,?_⟩
  rw[if_pos HZ.out];rfl
 ·rw[if_neg hz] at HR2
  have HZ:=Lib.hid hz
  generalize hlen:L.length=ln at *
  have HLN:=Lib.hid hlen
  clear hz hlen
  unfold Ph.val at HR2
  go_wp2_with (first|(go_at_call 95;with_reducible refine Still.use HR2.out ?_))
  refine bodyPost_ret (results_pr rfl rfl (bxCell HBR.out (mcs ..) 0 rfl).1 (bxCell HBR.out (mcs ..) 1 rfl).1) rfl ?_
  refine⟨C',_,L,HTK.out.1,by rw[HLN.out];exact HTK.out.2,HBR.out.turns,?_⟩
  rw[if_neg HZ.out];rfl
set_option maxHeartbeats 1000000 in
theorem Ctx.handsA {P:Hp} {S:HS} {w W:World} {FP:List Nat} {vb:Value} {Lb:List HB} {bx:List (Nat×TypeId×Array Value)} (hc:Ctx P S w FP (HaSt P.T.length vb Lb) bx W) {t:Nat} (ht:t<P.nt) (hl:(S.H t).length+Lb.length<=100):∃A c B cB,S.hv t=.slice A (S.H t).length c/\vb=.slice B Lb.length cB/\(A=none->(S.H t).length=0/\c=0)/\(S.H t).length<=c/\AtH W A c (cellsH (S.H t)) (fun _=>True)/\
 (0<Lb.length->∃ad,B=some ad/\∀(j:Nat) (u:Value),(cellsH Lb)[j]? =some u->W.cell? (ad.add j)=some u)/\(∀u∈cellsH Lb,u.oneCell'=true)/\W.cell? ⟨P.gT,t*3+1,none⟩=some (S.hv t)/\W.frozen? ⟨P.gT,t*3+1,none⟩=false/\
 ∀A' c' w',AppH W A (S.H t).length c Lb.length (cellsH (S.H t)) (cellsH Lb) A' c' w'->w'.cell? ⟨P.gT,t*3+1,none⟩=some (S.hv t)/\w'.frozen? ⟨P.gT,t*3+1,none⟩=false/\
  Ctx P (S.hnd t (.slice A' ((S.H t).length+Lb.length) c') (S.H t++Lb)) w FP NoL bx (w'.setCell ⟨P.gT,t*3+1,none⟩ (.slice A' ((S.H t).length+Lb.length) c')):=by
 obtain⟨f,fs,hHa,hOS,hdis,⟨gTf,hhf⟩,gTfs,gTlt,hgo⟩:=hc.hands (HaSt.framed _ _ _) ht
 obtain⟨A,c,fsH,e1,e2,e3,e4,e5,e6⟩:=hHa.opened
 obtain⟨B,cB,fsB,k1,k2,k3,k4,k5,k6⟩:=hOS.opened
 obtain⟨FP1,hs1⟩:=hc.sys_
 have y1:=(hs1.trow ht).2.1
 have yf:=(hs1.trow ht).2.2.2 (t*3+1)
 refine⟨A,c,B,cB,e1,k1,e3,e2,fun b hb=>?_,fun h0=>?_,fun u hu=>?_,y1,yf,fun A' c' w' hA=>?_⟩
 ·obtain⟨g,off,cs,q1,q2,q3⟩:=e6 b hb
  exact⟨g,off,cs,q1,trivial,q3⟩
 ·cases B with
  |none=>have:=(k3 rfl).1;omega
  |some ad=>
   obtain⟨g,off,cs,q1,_,q3,q4,q5⟩:=k6 ad rfl
   refine⟨ad,rfl,fun j u hu=>?_⟩
   rw[q1,add_pl]
   exact q3.cell_ _ (q5 j u hu)
 ·unfold cellsH at hu
  obtain⟨b,hb,hu⟩:=List.mem_flatMap.1 hu
  obtain⟨A',c',e,_⟩:=(k4 b hb).form
  simp[encN,HB.kv] at hu
  rcases hu with rfl|rfl
  ·rfl
  ·rw[e];rfl
 ·obtain⟨f',q1,q2,q3⟩:=HaSt.app (Lb:=Lb) (fs:=fsB) e6 e4 e5 k4 (fun b hb=>hdis b (k5 b hb)) hHa.lt (fun b hb=>hOS.lt b (k5 b hb)) hA rfl (fun b hb=>(List.mem_append.1 hb).elim (hHa.ok b) (hOS.ok b)) hl hHa.nd hOS.nd
  exact⟨(q3.cell (p:=⟨P.gT,t*3+1,none⟩) gTlt gTf).trans y1,(q3.frozen (p:=⟨P.gT,t*3+1,none⟩) gTlt gTf).trans yf,hgo _ _ w' f' q3 q1 (fun b hb=>(q2 b hb).imp_right (fun h=>h.imp (k5 b) (fun h=>⟨h,fun x hx e=>by have:=(hc.box hx).lt;omega⟩)))⟩
theorem Ctx.handsB {P:Hp} {S:HS} {w W:World} {FP:List Nat} {vb:Value} {L Lb:List HB} {A B:Option Addr} {c cB n m:Nat} {bx:List (Nat×TypeId×Array Value)} (hc:Ctx P S w FP (HaSt P.T.length vb Lb) bx W) {t:Nat} (ht:t<P.nt) (hn:L.length=n) (hm:Lb.length=m) (hv:S.hv t=.slice A n c) (hL:S.H t=L) (hvb:vb=.slice B m cB) (hl:n+m<=100):(A=none->n=0/\c=0)/\n<=c/\AtH W A c (cellsH L) (fun _=>True)/\
 (0<m->∃ad,B=some ad/\∀(j:Nat) (u:Value),(cellsH Lb)[j]? =some u->W.cell? (ad.add j)=some u)/\(∀u∈cellsH Lb,u.oneCell'=true)/\W.cell? ⟨P.gT,t*3+1,none⟩=some (.slice A n c)/\W.frozen? ⟨P.gT,t*3+1,none⟩=false/\(cellsH L).length=n*2/\(cellsH Lb).length=m*2/\
 ∀A' c' w',AppH W A n c m (cellsH L) (cellsH Lb) A' c' w'->w'.cell? ⟨P.gT,t*3+1,none⟩=some (.slice A n c)/\w'.frozen? ⟨P.gT,t*3+1,none⟩=false/\
  Ctx P (S.hnd t (.slice A' (n+m) c') (L++Lb)) w FP NoL bx (w'.setCell ⟨P.gT,t*3+1,none⟩ (.slice A' (n+m) c')):=by
 subst hn hm hL
 obtain⟨A1,c1,B1,cB1,h1,h2,h3,h4,h5,h6,h7,h8,h9,h10⟩:=hc.handsA ht hl
 rw[hv] at h1 h8 h10
 rw[hvb] at h2
 injection h1 with e1 _ e2
 injection h2 with e3 _ e4
 subst e1 e2 e3 e4
 exact⟨h3,h4,h5,h6,h7,h8,h9,cellsH_len _,cellsH_len _,h10⟩
theorem HS.hnd_cac_hnd (S:HS) (t:Nat) (v v':Value) (L L':List HB) (C:Int->Option CE):((S.hnd t v L).cac t C).hnd t v' L'=(S.cac t C).hnd t v' L':=by
 unfold HS.hnd HS.cac
 simp only[upd_twice]
theorem HS.hnd_hnd (S:HS) (t:Nat) (v v':Value) (L L':List HB):(S.hnd t v L).hnd t v' L'=S.hnd t v' L':=by
 unfold HS.hnd
 simp only[upd_twice]
theorem Ctx.formL {P:Hp} {S:HS} {w W:World} {FP:List Nat} {v:Value} {l:List Int} {bx:List (Nat×TypeId×Array Value)} (hc:Ctx P S w FP (OSt v l) bx W):∃A c,v=.slice A l.length c:=by
 obtain⟨fs,h⟩:=hc.part
 obtain⟨A,c,e,_⟩:=h.1.form
 exact⟨A,c,e⟩
theorem Ctx.handsT {P:Hp} {S:HS} {w W:World} {FP:List Nat} {bx:List (Nat×TypeId×Array Value)} (hc:Ctx P S w FP NoL bx W) {t:Nat} (ht:t<P.nt) {b:HB} {L:List HB} (hH:S.H t=b::L):∃g off c A c',S.hv t=.slice (some ⟨g,off,none⟩) (L.length+1) c/\sliced (some ⟨g,off,none⟩) 1 (L.length+1) c 2=.slice A L.length c'/\W.cell? ⟨P.gT,t*3+1,none⟩=some (.slice (some ⟨g,off,none⟩) (L.length+1) c)/\W.frozen? ⟨P.gT,t*3+1,none⟩=false/\
 Ctx P (S.hnd t (.slice A L.length c') L) w FP NoL bx (W.setCell ⟨P.gT,t*3+1,none⟩ (.slice A L.length c')):=by
 obtain⟨f,fs,hHa,hOS,hdis,⟨gTf,hhf⟩,gTfs,gTlt,hgo⟩:=hc.hands NoL.framed ht
 rw[hH] at hHa
 obtain⟨b0,q1,q2,g,off,c,q3,q4,_,_,q7,q8,⟨At,q9⟩,q10⟩:=hHa.uncons2
 obtain⟨FP1,hs1⟩:=hc.sys_
 have y1:=(hs1.trow ht).2.1
 have yf:=(hs1.trow ht).2.2.2 (t*3+1)
 rw[q9] at q10
 exact⟨g,off,c,At,_,q3,q9,q3▸y1,yf,hgo _ _ W _ (Only.refl _ _) q10 (fun b hb=>.inl (List.mem_filter.1 hb).1)⟩
end Go.Proofs.YtcidjimefnhacaaGreatDoor
