/- TopSchedules, a part of the proof: Rg, Un, Up, Uq. -/
import Derived.Test.YtcidjimefnhacaaGreatDoorM37
import Derived.Maps.AppendAt
import Derived.Test.YtcidjimefnhacaaGreatDoorM03
set_option linter.unusedVariables false
set_option linter.unusedSimpArgs false
namespace Go.Proofs.YtcidjimefnhacaaGreatDoor
open Go.RowKit
theorem step_appO {w:World} {ops:Array Oper} {o:Oper} {a:Act} {K:Act->World->Prop} {Q:Exit->Act->World->Prop} {E:Prop} (hg:o.guard=none) (s x:Operand) (base:Nat) (t e:TypeId) (i:TypeInfo) (z:Value) (size bytes:Nat) (ht:Tryz.prog.underlying t=some (.slice e)) (hi:Tryz.prog.info? e=some i) (hz:i.zero=some z) (hsize:i.size=size) (hby:i.bytes=bytes) (hzs:z.cells.size=size) (hsz:0<size)
 (hop:o.op=Op.call {callee:=Callee.builtin Builtin.append,args:=#[s,x],argTypes:=#[t,t]}) {v:Value} {B:Addr} {n m cB:Nat} {xs news:List Value} (hs:a.eval s=v) (hx:a.eval x=.slice (some B) m cB) (hown:w.ownsRow base e size v n xs) (hn:news.length=m*size) (hnews:∀j u,news[j]? =some u->w.cell? (B.add j)=some u)
 (h1c:∀u∈news,u.oneCell'=true) (h63:n+m<=maxLen) (hbytes:(n+m)*bytes<=140737488355328) (hbase:base<=w.heap.size)
 (hK:∀v' w',w'.ownsRow base e size v' (n+m) (xs++news)->w.grownBy w' v.ownBlock->(v'.ownBlock=v.ownBlock\/v'.ownBlock=some w.heap.size)->K (a.put o.dst v') w'):if Region.wanted o (yielded ops a.tmps)=true then Oper.wp Tryz.prog o a w K Q else E:=by
 have hw:Region.wanted o (yielded ops a.tmps)=true:=by simp[Region.wanted,hg]
 rw[if_pos hw]
 obtain⟨v',w',hrun,h1,h2,_,h3⟩:=run_append_own_at (P:=Tryz.prog) w base t o.type e i z size bytes ht hi hz hsize hby hzs hsz v n xs hown B m cB news hn hnews h1c h63 hbytes hbase
 unfold Oper.wp
 simp[execOp,hop,resolve,invoke,builtin,hs,hx,hrun,Result.andThen]
 exact hK _ _ h1 h2 h3
def Ac.cells (a:Ac):List Value:=[.int .i64 a.k,.int .i64 a.s,.int .i64 a.z,.int .i64 a.al,.int .i64 a.w,.int .i64 a.v]
def Ac.val (a:Ac):Value:=.agg #[.int .i64 a.k,.int .i64 a.s,.int .i64 a.z,.int .i64 a.al,.int .i64 a.w,.int .i64 a.v]
def Op4.val (o:Op4):Value:=.agg #[.int .i64 o.k,.int .i64 o.s,.int .i64 o.al,.int .i64 o.ad]
def Ev.cells (e:Ev):List Value:=[.int .i64 e.t,.int .i64 e.a,.bool e.e,.int .i64 e.o.k,.int .i64 e.o.s,.int .i64 e.o.al,.int .i64 e.o.ad,.int .i64 e.ra,.int .i64 e.re]
def evCells (L:List Ev):List Value:=L.flatMap Ev.cells
theorem evCells_app (L M:List Ev):evCells (L++M)=evCells L++evCells M:=by simp[evCells]
theorem evCells_one (e:Ev):evCells [e]=e.cells:=by simp[evCells]
theorem evCells_len (L:List Ev):(evCells L).length=L.length*9:=by
 induction L with
 |nil=>rfl
 |cons x l ih=>
  have:evCells (x::l)=x.cells++evCells l:=rfl
  rw[this,List.length_append,ih]
  simp[Ev.cells]
  omega
theorem evCells_at (L:List Ev) (i:Nat) {e:Ev} (h:L[i]? =some e) (j:Nat) (hj:j<9):(evCells L)[i*9+j]? =e.cells[j]? :=by
 induction L generalizing i with
 |nil=>simp at h
 |cons x l ih=>
  have hx:evCells (x::l)=x.cells++evCells l:=rfl
  have hl:x.cells.length=9:=rfl
  rw[hx]
  cases i with
  |zero=>
   simp at h
   subst h
   rw[List.getElem?_append_left (by omega),Nat.zero_mul,Nat.zero_add]
  |succ i=>
   rw[List.getElem?_append_right (by omega),hl]
   have:=ih i (by simpa using h)
   rw[<-this]
   congr 1
   omega
structure ActsAt (w:World) (v:Value) (l:List Ac) (fs:List Nat):Prop where
 ex:∃A c,v=.slice A l.length c/\l.length<=c/\(0<l.length->∃g off,A=some ⟨g,off,none⟩/\g∈fs/\g<w.heap.size/\∀i a,l[i]? =some a->∀j u,a.cells[j]? =some u->w.cell? ⟨g,off+i*6+j,none⟩=some u)
theorem ActsAt.only {w w':World} {v:Value} {l:List Ac} {fs L:List Nat} (h:ActsAt w v l fs) (ho:Only L w w') (hb:∀b∈fs,b∉L):ActsAt w' v l fs:=by
 obtain⟨A,c,h1,h2,h3⟩:=h
 refine⟨A,c,h1,h2,fun h0=>?_⟩
 obtain⟨g,off,q1,q2,q3,q4⟩:=h3 h0
 exact⟨g,off,q1,q2,Nat.lt_of_lt_of_le q3 ho.size,fun i a ha j u hu=>(ho.cell (p:=⟨g,off+i*6+j,none⟩) q3 (hb g q2)).trans (q4 i a ha j u hu)⟩
theorem ActsAt.mono {w:World} {v:Value} {l:List Ac} {fs fs':List Nat} (h:ActsAt w v l fs) (hb:∀b∈fs,b∈fs'):ActsAt w v l fs':=by
 obtain⟨A,c,h1,h2,h3⟩:=h
 refine⟨A,c,h1,h2,fun h0=>?_⟩
 obtain⟨g,off,q1,q2,q3,q4⟩:=h3 h0
 exact⟨g,off,q1,hb g q2,q3,q4⟩
structure RP where
 p:Nat
 gp:Nat
 cp:Nat
 pv:Nat->Value
def runF (P:Hp) (Q:RP) (v:Value) (R:RS) (j:Nat):Value:=
 if j=0 then .pointer (some ⟨P.h,0,none⟩) else if j=1 then .slice (some ⟨Q.gp,0,none⟩) P.nt Q.cp else if j<18 then .int .i64 (R.sl (j-2)) else if j<22 then .int .i64 (R.bg (j-18)) else if j<26 then .int .i64 (R.ov (j-22)) else if j<30 then .bool (R.bz (j-26)) else v
structure RunRec (P:Hp) (Q:RP) (pr:Nat->List Ac) (R:RS) (w:World) (fs:List Nat):Prop where
 ex:∃v fa,V.Row w Q.p 31 (runF P Q v R)/\w.ownsRow 0 68 9 v R.ev.length (evCells R.ev)/\V.Row w Q.gp P.nt Q.pv/\(∀t,t<P.nt->ActsAt w (Q.pv t) (pr t) fa)/\Q.p∈fs/\Q.gp∈fs/\(∀b∈fa,b∈fs)/\(∀b,v.ownBlock=some b->b∈fs/\b≠Q.p/\b≠Q.gp/\b∉fa)/\Q.p≠Q.gp/\Q.p∉fa
 cp:P.nt<=Q.cp
 lt:∀b∈fs,b<w.heap.size
theorem RunRec.framed (P:Hp) (Q:RP) (pr:Nat->List Ac) (R:RS):Framed (RunRec P Q pr R):=by
 constructor
 ·rintro w w' fp l ⟨⟨v,fa,h1,h2,h3,h4,h5,h6,h7,h8,h9,h10⟩,hc,hl⟩ ho hb
  exact⟨⟨v,fa,h1.only ho (hb _ h5),own_only h2 ho (fun k hk=>hb _ (h8 k hk).1),h3.only ho (hb _ h6),fun t ht=>(h4 t ht).only ho (fun b hb'=>hb _ (h7 b hb')),h5,h6,h7,h8,h9,h10⟩,hc,fun b hb'=>Nat.lt_of_lt_of_le (hl b hb') ho.size⟩
 ·exact fun h=>h.lt
theorem Ctx.loose {P:Hp} {Sc:HS} {w W:World} {FP:List Nat} {Ls:World->List Nat->Prop} {bx:List (Nat×TypeId×Array Value)} (h:Ctx P Sc w FP Ls bx W):∃fs,Ls W fs/\∀(Ls':World->List Nat->Prop) (W':World) (fs':List Nat),Only fs W W'->Ls' W' fs'->(∀b∈fs',b∈fs\/W.heap.size<=b)->Ctx P Sc w FP Ls' bx W':=by
 obtain⟨⟨g1,g2⟩,h1,⟨FPc,fs,h2,h3,h4,h5,h6⟩,h7⟩:=h
 refine⟨fs,h3,fun Ls' W' fs' ho hL hn=>?_⟩
 have hfs:∀b∈fs,3<=b:=fun b hb=>(h5 b hb).1.elim (g1 b) (fun h=>Nat.le_trans g2 h)
 refine⟨⟨g1,g2⟩,h1.then_ ho (fun b hb=>(h5 b hb).1),⟨FPc,fs',h2.only ho (fun b hb hb2=>(h5 b hb2).2 hb) hfs,hL,h4,fun b hb=>?_,fun x hx=>⟨(h6 x hx).1,fun hb=>?_⟩⟩,fun x hx=>(h7 x hx).only ho (h6 x hx).2⟩
 ·rcases hn b hb with h|h
  ·exact h5 b h
  ·exact⟨.inr (Nat.le_trans h1.size h),fun hb2=>by have:=h2.lt b hb2;omega⟩
 ·rcases hn _ hb with h|h
  ·exact(h6 x hx).2 h
  ·have:=(h7 x hx).lt;omega
structure Rcells (P:Hp) (Q:RP) (R:RS) (v:Value) (w:World):Prop where
 c0:w.cell? ⟨Q.p,0,none⟩=some (.pointer (some ⟨P.h,0,none⟩))
 c1:w.cell? ⟨Q.p,1,none⟩=some (.slice (some ⟨Q.gp,0,none⟩) P.nt Q.cp)
 sl:∀s,s<16->w.cell? ⟨Q.p,2+s,none⟩=some (.int .i64 (R.sl s))
 bg:∀t,t<4->w.cell? ⟨Q.p,18+t,none⟩=some (.int .i64 (R.bg t))
 ov:∀t,t<4->w.cell? ⟨Q.p,22+t,none⟩=some (.int .i64 (R.ov t))
 bz:∀t,t<4->w.cell? ⟨Q.p,26+t,none⟩=some (.bool (R.bz t))
 ev:w.cell? ⟨Q.p,30,none⟩=some v
 fz:∀i,w.frozen? ⟨Q.p,i,none⟩=false
theorem Rcells.of {P:Hp} {Q:RP} {R:RS} {v:Value} {w:World} (h:V.Row w Q.p 31 (runF P Q v R)):Rcells P Q R v w:=by
 refine⟨h.cell (k:=0) (by decide),h.cell (k:=1) (by decide),fun s hs=>(h.cell (k:=2+s) (by omega)).trans ?_,fun t ht=>(h.cell (k:=18+t) (by omega)).trans ?_,fun t ht=>(h.cell (k:=22+t) (by omega)).trans ?_,fun t ht=>(h.cell (k:=26+t) (by omega)).trans ?_,h.cell (k:=30) (by decide),fun i=>h.frozen i⟩
 ·unfold runF
  rw[if_neg (by omega),if_neg (by omega),if_pos (by omega),Nat.add_sub_cancel_left]
 ·unfold runF
  rw[if_neg (by omega),if_neg (by omega),if_neg (by omega),if_pos (by omega),Nat.add_sub_cancel_left]
 ·unfold runF
  rw[if_neg (by omega),if_neg (by omega),if_neg (by omega),if_neg (by omega),if_pos (by omega),Nat.add_sub_cancel_left]
 ·unfold runF
  rw[if_neg (by omega),if_neg (by omega),if_neg (by omega),if_neg (by omega),if_neg (by omega),if_pos (by omega),Nat.add_sub_cancel_left]
theorem Ctx.rcells {P:Hp} {Q:RP} {pr:Nat->List Ac} {R:RS} {Sc:HS} {w W:World} {FP:List Nat} {bx:List (Nat×TypeId×Array Value)} (h:Ctx P Sc w FP (RunRec P Q pr R) bx W):∃v A c,v=.slice A R.ev.length c/\Rcells P Q R v W/\W.ownsRow 0 68 9 v R.ev.length (evCells R.ev)/\P.nt<=Q.cp:=by
 obtain⟨fs,⟨⟨v,fa,h1,h2,_⟩,hc,_⟩⟩:=h.part
 obtain⟨A,c,e,_⟩:=own_slice h2
 exact⟨v,A,c,e,Rcells.of h1,h2,hc⟩
theorem Ctx.rprog {P:Hp} {Q:RP} {pr:Nat->List Ac} {R:RS} {Sc:HS} {w W:World} {FP:List Nat} {bx:List (Nat×TypeId×Array Value)} (h:Ctx P Sc w FP (RunRec P Q pr R) bx W) {t:Nat} (ht:t<P.nt):∃A c,W.cell? ⟨Q.gp,t,none⟩=some (.slice A (pr t).length c)/\Q.pv t=.slice A (pr t).length c/\(pr t).length<=c/\∀i a,(pr t)[i]? =some a->∃g off,A=some ⟨g,off,none⟩/\∀j u,a.cells[j]? =some u->W.cell? ⟨g,off+i*6+j,none⟩=some u:=by
 obtain⟨fs,⟨⟨v,fa,_,_,h3,h4,_⟩,hc,_⟩⟩:=h.part
 obtain⟨A,c,e1,e2,e3⟩:=h4 t ht
 refine⟨A,c,(h3.cell ht).trans (by rw[e1]),e1,e2,fun i a ha=>?_⟩
 have hl:i<(pr t).length:=(List.getElem?_eq_some_iff.1 ha).1
 obtain⟨g,off,q1,_,_,q4⟩:=e3 (by omega)
 exact⟨g,off,q1,q4 i a ha⟩
theorem Ctx.setRun {P:Hp} {Q:RP} {pr:Nat->List Ac} {R R':RS} {Sc:HS} {w W:World} {FP:List Nat} {bx:List (Nat×TypeId×Array Value)} (h:Ctx P Sc w FP (RunRec P Q pr R) bx W) (i:Nat) (u:Value) (he:R'.ev=R.ev) (hF:∀v k,k<31->(if k=i then u else runF P Q v R k)=runF P Q v R' k):Ctx P Sc w FP (RunRec P Q pr R') bx (W.setCell ⟨Q.p,i,none⟩ u):=by
 obtain⟨fs,⟨⟨v,fa,h1,h2,h3,h4,h5,h6,h7,h8,h9,h10⟩,hc,hl⟩,hk⟩:=h.loose
 have ho:Only [Q.p] W (W.setCell ⟨Q.p,i,none⟩ u):=(Only.refl [Q.p] W).setCell (p:=⟨Q.p,i,none⟩) (.inl (by simp)) _
 refine hk _ _ fs (ho.mono (by simpa using h5)) ⟨⟨v,fa,(h1.set_ i u).congr (fun k hk=>hF v k hk),?_,h3.only ho (by simpa using fun e=>h9 e.symm),fun t ht=>(h4 t ht).only ho (fun b hb e=>by simp at e;subst e;exact h10 hb),h5,h6,h7,h8,h9,h10⟩,hc,fun b hb=>Nat.lt_of_lt_of_le (hl b hb) ho.size⟩ (fun b hb=>.inl hb)
 rw[he]
 exact own_only h2 ho (fun k hk e=>by simp at e;exact(h8 k hk).2.1 e)
theorem runF_sl {P:Hp} {Q:RP} {v:Value} {R:RS} (s:Nat) (hs:s<16) (x:Int) (k:Nat):(if k=2+s then Value.int .i64 x else runF P Q v R k)=runF P Q v {R with sl:=upd R.sl s x} k:=by
 unfold runF upd
 by_cases e:k=2+s
 ·subst e
  rw[if_pos rfl,if_neg (by omega),if_neg (by omega),if_pos (by omega),Nat.add_sub_cancel_left];dsimp only;rw[if_pos rfl]
 ·rw[if_neg e]
  dsimp only
  by_cases c:k<18
  ·rw[if_pos c,if_pos c]
   by_cases c1:k=0
   ·rw[if_pos c1,if_pos c1]
   ·by_cases c2:k=1
    ·rw[if_neg c1,if_neg c1,if_pos c2,if_pos c2]
    ·rw[if_neg c1,if_neg c1,if_neg c2,if_neg c2,if_neg (by omega)]
  ·rw[if_neg c,if_neg c]
theorem runF_bg {P:Hp} {Q:RP} {v:Value} {R:RS} (t:Nat) (ht:t<4) (x:Nat) (k:Nat):(if k=18+t then Value.int .i64 (x:Nat) else runF P Q v R k)=runF P Q v {R with bg:=upd R.bg t x} k:=by
 unfold runF upd
 by_cases e:k=18+t
 ·subst e
  rw[if_pos rfl,if_neg (by omega),if_neg (by omega),if_neg (by omega),if_pos (by omega),Nat.add_sub_cancel_left];dsimp only;rw[if_pos rfl]
 ·rw[if_neg e]
  dsimp only
  by_cases c:k<22
  ·rw[if_pos c,if_pos c]
   by_cases c1:k<18
   ·rw[if_pos c1,if_pos c1]
   ·rw[if_neg (show ¬(k-18=t) by omega)]
  ·rw[if_neg c,if_neg c]
theorem runF_ov {P:Hp} {Q:RP} {v:Value} {R:RS} (t:Nat) (ht:t<4) (x:Int) (k:Nat):(if k=22+t then Value.int .i64 x else runF P Q v R k)=runF P Q v {R with ov:=upd R.ov t x} k:=by
 unfold runF upd
 by_cases e:k=22+t
 ·subst e
  rw[if_pos rfl,if_neg (by omega),if_neg (by omega),if_neg (by omega),if_neg (by omega),if_pos (by omega),Nat.add_sub_cancel_left];dsimp only;rw[if_pos rfl]
 ·rw[if_neg e]
  dsimp only
  by_cases c:k<26
  ·rw[if_pos c,if_pos c]
   by_cases c1:k<22
   ·rw[if_pos c1,if_pos c1]
   ·rw[if_neg (show ¬(k-22=t) by omega)]
  ·rw[if_neg c,if_neg c]
theorem runF_bz {P:Hp} {Q:RP} {v:Value} {R:RS} (t:Nat) (ht:t<4) (x:Bool) (k:Nat):(if k=26+t then Value.bool x else runF P Q v R k)=runF P Q v {R with bz:=upd R.bz t x} k:=by
 unfold runF upd
 by_cases e:k=26+t
 ·subst e
  rw[if_pos rfl,if_neg (by omega),if_neg (by omega),if_neg (by omega),if_neg (by omega),if_neg (by omega),if_pos (by omega),Nat.add_sub_cancel_left];dsimp only;rw[if_pos rfl]
 ·rw[if_neg e]
  dsimp only
  by_cases c:k<30
  ·rw[if_pos c,if_pos c]
   by_cases c1:k<26
   ·rw[if_pos c1,if_pos c1]
   ·rw[if_neg (show ¬(k-26=t) by omega)]
  ·rw[if_neg c,if_neg c]
theorem Ctx.grewEv {P:Hp} {Q:RP} {pr:Nat->List Ac} {R:RS} {Sc:HS} {w W:World} {FP:List Nat} {bx:List (Nat×TypeId×Array Value)} (h:Ctx P Sc w FP (RunRec P Q pr R) bx W) {v:Value} (hv:W.cell? ⟨Q.p,30,none⟩=some v) {W1:World} (h01:Only [] W W1) (e:Ev):W1.ownsRow 0 68 9 v R.ev.length (evCells R.ev)/\
 ∀v' W',W'.ownsRow 0 68 9 v' (R.ev.length+1) (evCells R.ev++e.cells)->W1.grownBy W' v.ownBlock->(v'.ownBlock=v.ownBlock\/v'.ownBlock=some W1.heap.size)->
  W'.cell? ⟨Q.p,30,none⟩=some v/\W'.frozen? ⟨Q.p,30,none⟩=false/\Ctx P Sc w FP (RunRec P Q pr {R with ev:=R.ev++[e]}) bx (W'.setCell ⟨Q.p,30,none⟩ v'):=by
 obtain⟨fs,⟨⟨v0,fa,h1,h2,h3,h4,h5,h6,h7,h8,h9,h10⟩,hc,hl⟩,hk⟩:=h.loose
 obtain rfl:v0=v:=Option.some.inj ((Rcells.of h1).ev.symm.trans hv)
 have hbig:=h01.size
 refine⟨own_only h2 h01 (by simp),fun v' W' hown hg hn=>?_⟩
 have ho1:Only v0.ownBlock.toList W W':=(h01.of_nil).grown hg (fun k hk=>.inl (Option.mem_toList.2 hk))
 have hp1:Q.p∉v0.ownBlock.toList:=fun hb=>(h8 _ (Option.mem_toList.1 hb)).2.1 rfl
 have ho:Only [Q.p] W' (W'.setCell ⟨Q.p,30,none⟩ v'):=(Only.refl [Q.p] W').setCell (p:=⟨Q.p,30,none⟩) (.inl (by simp)) _
 have hpl:=hl _ h5
 have hnew:∀b,v'.ownBlock=some b->(b∈fs\/W.heap.size<=b)/\b≠Q.p/\b≠Q.gp/\b∉fa:=fun b hb=>by
  rcases hn with hn|hn
  ·obtain⟨q1,q2⟩:=h8 b (hn.symm.trans hb)
   exact⟨.inl q1,q2⟩
  ·have:W1.heap.size=b:=Option.some.inj (hn.symm.trans hb)
   have hlt:∀x∈fs,x<b:=fun x hx=>by have:=hl x hx;omega
   exact⟨.inr (by omega),fun e=>by have:=hlt _ h5;omega,fun e=>by have:=hlt _ h6;omega,fun hx=>by have:=hlt _ (h7 _ hx);omega⟩
 refine⟨(ho1.cell (p:=⟨Q.p,30,none⟩) hpl hp1).trans hv,(ho1.frozen (p:=⟨Q.p,30,none⟩) hpl hp1).trans (h1.frozen 30),?_⟩
 refine hk _ _ (fs++v'.ownBlock.toList) ((ho1.mono (fun b hb=>(h8 b (Option.mem_toList.1 hb)).1)).then_ ho (fun b hb=>.inl (by simp at hb;subst hb;exact h5))) ⟨⟨v',fa,?_,?_,?_,fun t ht=>?_,List.mem_append_left _ h5,List.mem_append_left _ h6,fun b hb=>List.mem_append_left _ (h7 b hb),fun b hb=>⟨List.mem_append_right _ (Option.mem_toList.2 hb),(hnew b hb).2⟩,h9,h10⟩,hc,fun b hb=>?_⟩ (fun b hb=>?_)
 ·refine((h1.only ho1 hp1).set_ 30 v').congr (fun k hk=>?_)
  by_cases e:k=30
  ·subst e;rfl
  ·rw[if_neg e]
   unfold runF
   dsimp only
   by_cases c:k<30
   ·simp only[if_pos c]
   ·omega
 ·rw[show(R.ev++[e]).length=R.ev.length+1 by simp,evCells_app,evCells_one]
  exact own_only hown ho (fun k hk e=>by simp at e;exact(hnew k hk).2.1 e)
 ·exact(h3.only ho1 (fun hb=>(h8 _ (Option.mem_toList.1 hb)).2.2.1 rfl)).only ho (by simpa using fun e=>h9 e.symm)
 ·exact((h4 t ht).only ho1 (fun b hb hb2=>(h8 _ (Option.mem_toList.1 hb2)).2.2.2 hb)).only ho (fun b hb e=>by simp at e;subst e;exact h10 hb)
 ·refine Nat.lt_of_lt_of_le ?_ ho.size
  rcases List.mem_append.1 hb with h|h
  ·exact Nat.lt_of_lt_of_le (hl b h) ho1.size
  ·exact own_lt' hown b (Option.mem_toList.1 h)
 ·rcases List.mem_append.1 hb with h|h
  ·exact .inl h
  ·exact(hnew b (Option.mem_toList.1 h)).1
theorem make_table {w:Int} (h1:2<=w) (h2:w<=16):Z.isTable (Z.makeC w):=by
 rcases (show w=2\/w=3\/w=4\/w=5\/w=6\/w=7\/w=8\/w=9\/w=10\/w=11\/w=12\/w=13\/w=14\/w=15\/w=16 by omega) with rfl|rfl|rfl|rfl|rfl|rfl|rfl|rfl|rfl|rfl|rfl|rfl|rfl|rfl|rfl<;>decide+kernel
theorem readsC_own {W:World} {v:Value} {base:Nat} {T:List Z.Cl} (hT:Z.isTable T) (h:W.ownsRow base 101 3 v T.length (Z.cellsC T)):∃g c,v=.slice (some ⟨g,0,none⟩) T.length c/\T.length<=c/\base<=g/\g<W.heap.size/\Z.ReadsC W (some ⟨g,0,none⟩) T.length T:=by
 have h0:0<T.length:=hT.1
 rcases h.2 with ⟨rfl,e⟩|⟨g,cap,cur,rfl,hb,hg,hc,h4,h5,h6⟩
 ·omega
 ·have hB:Blk W g 101 cur:=hg
  have key:∀j u,(Z.cellsC T)[j]? =some u->W.cell? ⟨g,j,none⟩=some u:=fun j u hu=>by
   have hj:j<T.length*3:=by have:=(List.getElem?_eq_some_iff.1 hu).1;rwa[Z.cellsC_length] at this
   refine hB.cell_ j ?_
   rw[<-hu,<-h6,List.getElem?_take,if_pos hj,Array.getElem?_toList]
  refine⟨g,cap,rfl,hc,hb,hB.lt,rfl,fun j hj=>?_,fun _=>⟨_,rfl,fun i hi=>?_⟩⟩
  ·obtain⟨n1,n2,n3,n4,n5,n6,n7,n8⟩:=(hT.2.2 j hj).1
   have g1:(8:Int)<=(Z.cAt T j).s:=n1
   have g2:(Z.cAt T j).s<=(512:Int):=n2
   have g4:(1:Int)<=(Z.cAt T j).p:=n4
   have g5:(Z.cAt T j).p<=(4:Int):=n5
   have g7:(1:Int)<=(Z.cAt T j).b:=n7
   have g8:(Z.cAt T j).b<=(32:Int):=n8
   exact⟨⟨by omega,by omega⟩,⟨by omega,by omega⟩,⟨by omega,by omega⟩⟩
  obtain⟨k1,k2,k3⟩:=Z.cellsC_at T i hi
  rw[add_pl,Nat.zero_add]
  exact⟨key _ _ k1,key _ _ k2,key _ _ k3⟩
def Tg {τ:Type} (base:Nat) (w:World) (φ:Nat->τ) (i:τ) (fp:List Nat):Prop:=∀b∈fp,base<=b/\b<w.heap.size/\φ b=i
def tgx {τ:Type} (φ:Nat->τ) (m:Nat) (i:τ):Nat->τ:=fun b=>if b<m then φ b else i
section
variable {τ:Type} {base:Nat} {w w':World} {φ:Nat->τ} {i j:τ} {fp fp':List Nat}
theorem Tg.old (h:Tg base w φ i fp) (ho:w.heap.size<=w'.heap.size):Tg base w' (tgx φ w.heap.size j) i fp:=fun b hb=>by
 obtain⟨h1,h2,h3⟩:=h b hb
 exact⟨h1,by omega,(if_pos h2).trans h3⟩
theorem Tg.new (hn:∀b∈fp,w.heap.size<=b) (hl:∀b∈fp,b<w'.heap.size) (hb:base<=w.heap.size):Tg base w' (tgx φ w.heap.size j) j fp:=fun b h=>by
 have:=hn b h
 exact⟨by omega,hl b h,if_neg (by omega)⟩
theorem Tg.grow (h:Tg base w φ i fp) (ho:w.heap.size<=w'.heap.size):Tg base w' φ i fp:=fun b hb=>by
 obtain⟨h1,h2,h3⟩:=h b hb
 exact⟨h1,by omega,h3⟩
theorem Tg.apart (h:Tg base w φ i fp) (h':Tg base w φ j fp') (hne:i≠j):∀b∈fp,b∉fp':=fun b hb hb'=>hne ((h b hb).2.2.symm.trans (h' b hb').2.2)
theorem Tg.app (h:Tg base w φ i fp) (h':Tg base w φ i fp'):Tg base w φ i (fp++fp'):=fun b hb=>(List.mem_append.1 hb).elim (h b) (h' b)
theorem Tg.sub (h:Tg base w φ i fp) (hs:∀b∈fp',b∈fp):Tg base w φ i fp':=fun b hb=>h b (hs b hb)
end
def ptrL (f:Nat->Nat):Nat->List Value
 |0=>[]
 |k+1=>ptrL f k++[.pointer (some ⟨f k,0,none⟩)]
theorem ptrL_len (f:Nat->Nat) (k:Nat):(ptrL f k).length=k:=by
 induction k with
 |zero=>rfl
 |succ k ih=>rw[ptrL,List.length_append,ih];rfl
theorem ptrL_at (f:Nat->Nat) (k i:Nat) (hi:i<k):(ptrL f k)[i]? =some (.pointer (some ⟨f i,0,none⟩)):=by
 induction k with
 |zero=>omega
 |succ k ih=>
  rw[ptrL]
  rcases Nat.lt_or_ge i k with h|h
  ·rw[List.getElem?_append_left (by rw[ptrL_len];exact h)];exact ih h
  ·obtain rfl:i=k:=by omega
   rw[List.getElem?_append_right (by rw[ptrL_len];exact Nat.le_refl _),ptrL_len];simp
theorem ptrL_congr {f g:Nat->Nat} (k:Nat) (h:∀i,i<k->f i=g i):ptrL f k=ptrL g k:=by
 induction k with
 |zero=>rfl
 |succ k ih=>rw[ptrL,ptrL,ih (fun i hi=>h i (by omega)),h k (by omega)]
structure ArB (T:List Z.Cl) (room:Int) (sp g2 c2 bd hu pm rn ar i:Nat) (W0 w:World):Prop where
 ex:∃(φ:Nat->Nat) (vc vx:Value) (ce tr:Nat->Nat) (f1 f2 f3:List Nat) (fc ft:Nat->List Nat),
  Blk w ar 140 #[.slice (some ⟨g2,0,none⟩) T.length c2,.pointer (some ⟨sp,0,none⟩),.pointer (some ⟨bd,0,none⟩),.pointer (some ⟨hu,0,none⟩),.pointer (some ⟨pm,0,none⟩),vc,vx,.map (some rn)]/\
  Z.ReadsC w (some ⟨g2,0,none⟩) T.length T/\w.ownsRow W0.heap.size 145 1 vc i (ptrL ce i)/\w.ownsRow W0.heap.size 148 1 vx i (ptrL tr i)/\
  BuSt bd (fun _ _=>false) w f1/\HuSt 256 hu (fun _=>0) w f2/\PmSt pm w f3/\RunSt rn (fun _=>none) w [rn]/\
  (∀k,k<i->ListSt w (ce k) (fc k) ⟨(Z.cAt T k).s,(Z.cAt T k).p,(Z.cAt T k).b⟩ []/\TrSt (Z.cAt T k).b room (tr k) [] w (ft k))/\
  Tg W0.heap.size w φ 0 [ar]/\Tg W0.heap.size w φ 0 [g2]/\Tg W0.heap.size w φ 0 vc.ownBlock.toList/\Tg W0.heap.size w φ 0 vx.ownBlock.toList/\Tg W0.heap.size w φ 1 f1/\Tg W0.heap.size w φ 2 f2/\Tg W0.heap.size w φ 3 f3/\Tg W0.heap.size w φ 4 [rn]/\
  (∀k,k<i->Tg W0.heap.size w φ (5+2*k) (fc k)/\Tg W0.heap.size w φ (6+2*k) (ft k))/\
  ar≠g2/\(∀k,vc.ownBlock=some k->k≠ar/\k≠g2/\vx.ownBlock≠some k)/\(∀k,vx.ownBlock=some k->k≠ar/\k≠g2)
 o:Only [] W0 w
end Go.Proofs.YtcidjimefnhacaaGreatDoor
namespace Go.Proofs.YtcidjimefnhacaaGreatDoor
open Go.RowKit
theorem info_pc:(Tryz.prog.info? 145).map (fun i=>(i.zero,i.size,i.bytes))=some (some (.pointer none),1,8):=by kernel_rfl
theorem info_px:(Tryz.prog.info? 148).map (fun i=>(i.zero,i.size,i.bytes))=some (some (.pointer none),1,8):=by kernel_rfl
structure Ap (We:World) (base:Nat) (tC tX tA:TypeId) (ar:Nat) (vc vx:Value) (w:World) (cv:Value) (cn:Nat) (cl:List Value) (xv:Value) (xn:Nat) (xl:List Value) (cs:Array Value) (ks:List (Nat×TypeId×Array Value)):Prop where
 o:Only (ar::(vc.ownBlock.toList++vx.ownBlock.toList)) We w
 rc:w.ownsRow base tC 1 cv cn cl
 rx:w.ownsRow base tX 1 xv xn xl
 nc:∀k,cv.ownBlock=some k->k≠ar/\(vc.ownBlock=some k\/We.heap.size<=k)/\xv.ownBlock≠some k
 nx:∀k,xv.ownBlock=some k->k≠ar/\(vx.ownBlock=some k\/We.heap.size<=k)
 b:Blk w ar tA cs
 la:ar<We.heap.size
 lb:base<=We.heap.size
 ks:∀x∈ks,Blk w x.1 x.2.1 x.2.2/\x.1≠ar/\cv.ownBlock≠some x.1/\xv.ownBlock≠some x.1
namespace Ap
variable {We:World} {base:Nat} {tC tX tA:TypeId} {ar:Nat} {vc vx:Value} {w:World} {cv:Value} {cn:Nat} {cl:List Value} {xv:Value} {xn:Nat} {xl:List Value} {cs:Array Value} {ks:List (Nat×TypeId×Array Value)}
theorem drew (h:Ap We base tC tX tA ar vc vx w cv cn cl xv xn xl cs ks):Ap We base tC tX tA ar vc vx w.drew cv cn cl xv xn xl cs ks:=
 ⟨h.o.drew,h.rc,h.rx,h.nc,h.nx,h.b,h.la,h.lb,h.ks⟩
theorem alloc (h:Ap We base tC tX tA ar vc vx w cv cn cl xv xn xl cs ks) (t:TypeId) (us:Array Value):Ap We base tC tX tA ar vc vx (w.alloc (.cells us t)) cv cn cl xv xn xl cs ((w.heap.size,t,us)::ks):=by
 have ho:Only [] w (w.alloc (.cells us t)):=(Only.refl [] w).alloc _
 refine⟨h.o.alloc _,own_only h.rc ho (by simp),own_only h.rx ho (by simp),h.nc,h.nx,h.b.alloc _,h.la,h.lb,fun x hx=>?_⟩
 rcases List.mem_cons.1 hx with rfl|hx
 ·refine⟨Blk.new w t us,?_,fun e=>?_,fun e=>?_⟩
  ·have:=h.b.lt;omega
  ·have:=own_lt' h.rc _ e;omega
  ·have:=own_lt' h.rx _ e;omega
 ·obtain⟨q1,q2⟩:=h.ks x hx
  exact⟨q1.alloc _,q2⟩
theorem store (h:Ap We base tC tX tA ar vc vx w cv cn cl xv xn xl cs ks) (i:Nat) (u:Value):Ap We base tC tX tA ar vc vx (w.setCell ⟨ar,i,none⟩ u) cv cn cl xv xn xl (cs.setIfInBounds i u) ks:=by
 have ho:Only [ar] w (w.setCell ⟨ar,i,none⟩ u):=(Only.refl [ar] w).setCell (p:=⟨ar,i,none⟩) (.inl (by simp)) _
 refine⟨h.o.setCell (p:=⟨ar,i,none⟩) (.inl (by simp)) _,own_only h.rc ho (fun k hk=>by simpa using (h.nc k hk).1),own_only h.rx ho (fun k hk=>by simpa using (h.nx k hk).1),h.nc,h.nx,h.b.set_ i u,h.la,h.lb,fun x hx=>?_⟩
 obtain⟨q1,q2,q3⟩:=h.ks x hx
 exact⟨q1.only ho (by simpa using q2),q2,q3⟩
theorem appC (h:Ap We base tC tX tA ar vc vx w cv cn cl xv xn xl cs ks) {w':World} {v':Value} {n':Nat} {l':List Value} (hown:w'.ownsRow base tC 1 v' n' l') (hg:w.grownBy w' cv.ownBlock) (hat:v'.ownBlock=cv.ownBlock\/v'.ownBlock=some w.heap.size):Ap We base tC tX tA ar vc vx w' v' n' l' xv xn xl cs ks:=by
 have ho:Only cv.ownBlock.toList w w':=(Only.refl _ w).grown hg (fun k hk=>.inl (Option.mem_toList.2 hk))
 have hbl:=h.b.lt
 have hsz:=h.o.size
 refine⟨h.o.grown hg (fun k hk=>?_),hown,own_only h.rx ho (fun k hk hx=>(h.nc k (Option.mem_toList.1 hx)).2.2 hk),fun k hk=>?_,h.nx,h.b.only ho (fun hx=>(h.nc ar (Option.mem_toList.1 hx)).1 rfl),h.la,h.lb,fun x hx=>?_⟩
 ·rcases (h.nc k hk).2.1 with c|c
  ·exact .inl (mcm _ (List.mem_append_left _ (Option.mem_toList.2 c)))
  ·exact .inr c
 ·rcases hat with e|e
  ·exact h.nc k (e.symm.trans hk)
  ·have e2:w.heap.size=k:=Option.some.inj (e.symm.trans hk)
   refine⟨by omega,.inr (by omega),fun hx=>?_⟩
   have:=own_lt' h.rx _ hx
   omega
 ·obtain⟨q1,q2,q3,q4⟩:=h.ks x hx
  refine⟨q1.only ho (fun hx=>q3 (Option.mem_toList.1 hx)),q2,fun e=>?_,q4⟩
  rcases hat with e1|e1
  ·exact q3 (e1.symm.trans e)
  ·have e2:w.heap.size=x.1:=Option.some.inj (e1.symm.trans e)
   have:=q1.lt
   omega
theorem appX (h:Ap We base tC tX tA ar vc vx w cv cn cl xv xn xl cs ks) {w':World} {v':Value} {n':Nat} {l':List Value} (hown:w'.ownsRow base tX 1 v' n' l') (hg:w.grownBy w' xv.ownBlock) (hat:v'.ownBlock=xv.ownBlock\/v'.ownBlock=some w.heap.size):Ap We base tC tX tA ar vc vx w' cv cn cl v' n' l' cs ks:=by
 have ho:Only xv.ownBlock.toList w w':=(Only.refl _ w).grown hg (fun k hk=>.inl (Option.mem_toList.2 hk))
 have hbl:=h.b.lt
 have hsz:=h.o.size
 refine⟨h.o.grown hg (fun k hk=>?_),own_only h.rc ho (fun k hk hx=>(h.nc k hk).2.2 (Option.mem_toList.1 hx)),hown,fun k hk=>?_,fun k hk=>?_,h.b.only ho (fun hx=>(h.nx ar (Option.mem_toList.1 hx)).1 rfl),h.la,h.lb,fun x hx=>?_⟩
 ·rcases (h.nx k hk).2 with c|c
  ·exact .inl (mcm _ (List.mem_append_right _ (Option.mem_toList.2 c)))
  ·exact .inr c
 ·obtain⟨q1,q2,q3⟩:=h.nc k hk
  refine⟨q1,q2,fun e=>?_⟩
  rcases hat with e1|e1
  ·exact q3 (e1.symm.trans e)
  ·have e2:w.heap.size=k:=Option.some.inj (e1.symm.trans e)
   have:=own_lt' h.rc _ hk
   omega
 ·rcases hat with e|e
  ·exact h.nx k (e.symm.trans hk)
  ·have e2:w.heap.size=k:=Option.some.inj (e.symm.trans hk)
   exact⟨by omega,.inr (by omega)⟩
 ·obtain⟨q1,q2,q3,q4⟩:=h.ks x hx
  refine⟨q1.only ho (fun hx=>q4 (Option.mem_toList.1 hx)),q2,q3,fun e=>?_⟩
  rcases hat with e1|e1
  ·exact q4 (e1.symm.trans e)
  ·have e2:w.heap.size=x.1:=Option.some.inj (e1.symm.trans e)
   have:=q1.lt
   omega
theorem news (h:Ap We base tC tX tA ar vc vx w cv cn cl xv xn xl cs ks) {g:Nat} {t:TypeId} {u:Value} (hm:(g,t,#[u])∈ks):∀j x,[u][j]? =some x->w.cell? ((⟨g,0,none⟩:Addr).add j)=some x:=by
 intro j x hj
 rw[Addr.add_lit,Nat.zero_add]
 exact(h.ks _ hm).1.cell_ j (by simpa using hj)
end Ap
set_option maxHeartbeats 4000000 in
theorem Ap.stepC {We:World} {base:Nat} {ar:Nat} {vc vx:Value} {w:World} {cv:Value} {cn:Nat} {cl:List Value} {xv:Value} {xn:Nat} {xl:List Value} {cs:Array Value} {ks:List (Nat×TypeId×Array Value)} {ops:Array Oper} {o:Oper} {a:Act} {K:Act->World->Prop} {Q:Exit->Act->World->Prop} {E:Prop}
 (h:Ap We base 145 148 140 ar vc vx w cv cn cl xv xn xl cs ks) (s x:Operand) (hg:o.guard=none) (hop:o.op=Op.call {callee:=Callee.builtin Builtin.append,args:=#[s,x],argTypes:=#[137,137]}) (hs:a.eval s=cv) {g cB:Nat} {u:Value} (hx:a.eval x=.slice (some ⟨g,0,none⟩) 1 cB) (hm:(g,145,#[u])∈ks) (h1:u.oneCell'=true) (hn:cn<=1000)
 (hK:∀v' w',Ap We base 145 148 140 ar vc vx w' v' (cn+1) (cl++[u]) xv xn xl cs ks->K (a.put o.dst v') w'):if Region.wanted o (yielded ops a.tmps)=true then Oper.wp Tryz.prog o a w K Q else E:=by
 obtain⟨ic,ic1,ic2,ic3,ic4⟩:=info_parts info_pc
 exact step_appO hg s x base _ 145 ic _ 1 8 Tryz.underlying137 ic1 ic2 ic3 ic4 rfl (by decide) hop hs hx h.rc rfl (h.news hm) (by simpa using h1) (by unfold maxLen;omega) (by omega) (Nat.le_trans h.lb h.o.size) (fun v' w' q1 q2 q3=>hK v' w' (h.appC q1 q2 q3))
set_option maxHeartbeats 4000000 in
theorem Ap.stepX {We:World} {base:Nat} {ar:Nat} {vc vx:Value} {w:World} {cv:Value} {cn:Nat} {cl:List Value} {xv:Value} {xn:Nat} {xl:List Value} {cs:Array Value} {ks:List (Nat×TypeId×Array Value)} {ops:Array Oper} {o:Oper} {a:Act} {K:Act->World->Prop} {Q:Exit->Act->World->Prop} {E:Prop}
 (h:Ap We base 145 148 140 ar vc vx w cv cn cl xv xn xl cs ks) (s x:Operand) (hg:o.guard=none) (hop:o.op=Op.call {callee:=Callee.builtin Builtin.append,args:=#[s,x],argTypes:=#[138,138]}) (hs:a.eval s=xv) {g cB:Nat} {u:Value} (hx:a.eval x=.slice (some ⟨g,0,none⟩) 1 cB) (hm:(g,148,#[u])∈ks) (h1:u.oneCell'=true) (hn:xn<=1000)
 (hK:∀v' w',Ap We base 145 148 140 ar vc vx w' cv cn cl v' (xn+1) (xl++[u]) cs ks->K (a.put o.dst v') w'):if Region.wanted o (yielded ops a.tmps)=true then Oper.wp Tryz.prog o a w K Q else E:=by
 obtain⟨ix,ix1,ix2,ix3,ix4⟩:=info_parts info_px
 exact step_appO hg s x base _ 148 ix _ 1 8 Tryz.underlying138 ix1 ix2 ix3 ix4 rfl (by decide) hop hs hx h.rx rfl (h.news hm) (by simpa using h1) (by unfold maxLen;omega) (by omega) (Nat.le_trans h.lb h.o.size) (fun v' w' q1 q2 q3=>hK v' w' (h.appX q1 q2 q3))
theorem ArB.next {T:List Z.Cl} {room:Int} {sp g2 c2 bd hu pm rn ar i:Nat} {W0 w:World} (h:ArB T room sp g2 c2 bd hu pm rn ar i W0 w):∃(vc vx:Value) (xs ys:List Value) (Ac Ax:Option Addr) (cc cx:Nat),vc=.slice Ac i cc/\vx=.slice Ax i cx/\
 (∀We,Only [] w We->Ap We W0.heap.size 145 148 140 ar vc vx We vc i xs vx i ys #[.slice (some ⟨g2,0,none⟩) T.length c2,.pointer (some ⟨sp,0,none⟩),.pointer (some ⟨bd,0,none⟩),.pointer (some ⟨hu,0,none⟩),.pointer (some ⟨pm,0,none⟩),vc,vx,.map (some rn)] [])/\
 ∀(Wd We wf:World) (cl tp:Nat) (fc ft:List Nat) (c' x':Value) (ks:List (Nat×TypeId×Array Value)),Only [] w Wd->Only [] Wd We->ListSt Wd cl fc ⟨(Z.cAt T i).s,(Z.cAt T i).p,(Z.cAt T i).b⟩ []->(∀b∈fc,w.heap.size<=b)->TrSt (Z.cAt T i).b room tp [] We ft->(∀b∈ft,Wd.heap.size<=b)->
  Ap We W0.heap.size 145 148 140 ar vc vx wf c' (i+1) (xs++[.pointer (some ⟨cl,0,none⟩)]) x' (i+1) (ys++[.pointer (some ⟨tp,0,none⟩)]) #[.slice (some ⟨g2,0,none⟩) T.length c2,.pointer (some ⟨sp,0,none⟩),.pointer (some ⟨bd,0,none⟩),.pointer (some ⟨hu,0,none⟩),.pointer (some ⟨pm,0,none⟩),c',x',.map (some rn)] ks->
  ArB T room sp g2 c2 bd hu pm rn ar (i+1) W0 wf:=by
 obtain⟨⟨φ,vc,vx,ce,tr,f1,f2,f3,fc0,ft0,k1,k2,k3,k4,k5,k6,k7,k8,k9,t0,t1,t2,t3,t4,t5,t6,t7,t8,n1,n2,n3⟩,ho⟩:=h
 obtain⟨Ac,cc,e1,_⟩:=own_slice k3
 obtain⟨Ax,cx,e2,_⟩:=own_slice k4
 refine⟨vc,vx,ptrL ce i,ptrL tr i,Ac,Ax,cc,cx,e1,e2,fun We hoW=>?_,fun Wd We wf cl tp fc ft c' x' ks hod hoe hl hfc ht hft hA=>?_⟩
 ·refine⟨Only.refl _ _,own_only k3 hoW (by simp),own_only k4 hoW (by simp),fun k hk=>⟨(n2 k hk).1,.inl hk,(n2 k hk).2.2⟩,fun k hk=>⟨(n3 k hk).1,.inl hk⟩,k1.only hoW (by simp),Nat.lt_of_lt_of_le k1.lt hoW.size,(ho.trans hoW).size,(fun x hx=>by cases hx)⟩
 ·have sd:=hod.size
  have se:=hoe.size
  have sf:=hA.o.size
  have s0:=ho.size
  have kk:∀b,b∈(ar::(vc.ownBlock.toList++vx.ownBlock.toList))->φ b=0/\b<w.heap.size:=fun b hb=>by
   rcases List.mem_cons.1 hb with rfl|hb
   ·exact⟨(t0 b (by simp)).2.2,(t0 b (by simp)).2.1⟩
   ·rcases List.mem_append.1 hb with hb|hb
    ·exact⟨(t2 b hb).2.2,(t2 b hb).2.1⟩
    ·exact⟨(t3 b hb).2.2,(t3 b hb).2.1⟩
  have lc:=(ListSt.framed cl ⟨(Z.cAt T i).s,(Z.cAt T i).p,(Z.cAt T i).b⟩ []).lt hl
  have lt:=(TrSt.framed (Z.cAt T i).b room tp []).lt ht
  have up:∀{j:Nat} {fp:List Nat},Tg W0.heap.size w φ j fp->Tg W0.heap.size wf (tgx (tgx (tgx φ w.heap.size (5+2*i)) Wd.heap.size (6+2*i)) We.heap.size 0) j fp:=fun h=>(((h.old sd).old se).old sf)
  have upc:Tg W0.heap.size wf (tgx (tgx (tgx φ w.heap.size (5+2*i)) Wd.heap.size (6+2*i)) We.heap.size 0) (5+2*i) fc:=(((Tg.new hfc lc s0:Tg W0.heap.size Wd (tgx φ w.heap.size (5+2*i)) (5+2*i) fc).old se).old sf)
  have upt:Tg W0.heap.size wf (tgx (tgx (tgx φ w.heap.size (5+2*i)) Wd.heap.size (6+2*i)) We.heap.size 0) (6+2*i) ft:=((Tg.new hft lt (by omega):Tg W0.heap.size We _ (6+2*i) ft).old sf)
  have far:∀{fp:List Nat} {j:Nat},j≠0->Tg W0.heap.size w φ j fp->∀b∈fp,b∉(ar::(vc.ownBlock.toList++vx.ownBlock.toList)):=fun hj hT b hb hx=>hj ((hT b hb).2.2.symm.trans (kk b hx).1)
  have farn:∀{fp:List Nat},(∀b∈fp,w.heap.size<=b)->∀b∈fp,b∉(ar::(vc.ownBlock.toList++vx.ownBlock.toList)):=fun hn b hb hx=>by
   have:=hn b hb
   have:=(kk b hx).2
   omega
  have hwe:=hod.trans hoe
  have hall:Only (ar::(vc.ownBlock.toList++vx.ownBlock.toList)) w wf:=hwe.of_nil.trans hA.o |>.mono (fun b hb=>hb)
  have nv:∀v:Value,(∀k,v.ownBlock=some k->(vc.ownBlock=some k\/vx.ownBlock=some k)\/We.heap.size<=k)->(∀k,v.ownBlock=some k->k<wf.heap.size)->Tg W0.heap.size wf (tgx (tgx (tgx φ w.heap.size (5+2*i)) Wd.heap.size (6+2*i)) We.heap.size 0) 0 v.ownBlock.toList:=fun v hv hlt b hb=>by
   rcases hv b (Option.mem_toList.1 hb) with (c|c)|c
   ·exact up t2 b (Option.mem_toList.2 c)
   ·exact up t3 b (Option.mem_toList.2 c)
   ·exact⟨by omega,hlt b (Option.mem_toList.1 hb),if_neg (by omega)⟩
  have g2ne:g2∉(ar::(vc.ownBlock.toList++vx.ownBlock.toList)):=fun hx=>by
   rcases List.mem_cons.1 hx with e|hx
   ·exact n1 e.symm
   ·rcases List.mem_append.1 hx with hx|hx
    ·exact(n2 g2 (Option.mem_toList.1 hx)).2.1 rfl
    ·exact(n3 g2 (Option.mem_toList.1 hx)).2 rfl
  have hg2:=(t1 g2 (by simp)).2.1
  refine⟨⟨tgx (tgx (tgx φ w.heap.size (5+2*i)) Wd.heap.size (6+2*i)) We.heap.size 0,c',x',fun k=>if k=i then cl else ce k,fun k=>if k=i then tp else tr k,f1,f2,f3,fun k=>if k=i then fc else fc0 k,fun k=>if k=i then ft else ft0 k,hA.b,k2.only hall (fun ad e=>by cases e;exact g2ne),?_,?_,(BuSt.framed _ _).only k5 hall (far (by decide) t4),(HuSt.framed _ _ _).only k6 hall (far (by decide) t5),(PmSt.framed _).only k7 hall (far (by decide) t6),(RunSt.framed _ _).only k8 hall (far (by decide) t7),fun k hk=>?_,up t0,up t1,nv c' (fun k hk=>?_) (own_lt' hA.rc),nv x' (fun k hk=>?_) (own_lt' hA.rx),up t4,up t5,up t6,up t7,fun k hk=>?_,n1,fun k hk=>?_,fun k hk=>?_⟩,?_⟩
  ·rw[ptrL,if_pos rfl,ptrL_congr i (f:=fun k=>if k=i then cl else ce k) (g:=ce) (fun k hk=>if_neg (by omega))]
   exact hA.rc
  ·rw[ptrL,if_pos rfl,ptrL_congr i (f:=fun k=>if k=i then tp else tr k) (g:=tr) (fun k hk=>if_neg (by omega))]
   exact hA.rx
  ·dsimp only
   by_cases e:k=i
   ·subst e
    rw[if_pos rfl,if_pos rfl,if_pos rfl,if_pos rfl]
    exact⟨(hl.only hoe (by simp)).only hA.o (farn hfc),(TrSt.framed _ _ _ _).only ht hA.o (farn (fun b hb=>by have:=hft b hb;omega))⟩
   ·rw[if_neg e,if_neg e,if_neg e,if_neg e]
    obtain⟨q1,q2⟩:=k9 k (by omega)
    obtain⟨r1,r2⟩:=t8 k (by omega)
    exact⟨q1.only hall (far (by omega) r1),(TrSt.framed _ _ _ _).only q2 hall (far (by omega) r2)⟩
  ·rcases (hA.nc k hk).2.1 with c|c
   ·exact .inl (.inl c)
   ·exact .inr c
  ·rcases (hA.nx k hk).2 with c|c
   ·exact .inl (.inr c)
   ·exact .inr c
  ·dsimp only
   by_cases e:k=i
   ·subst e
    rw[if_pos rfl,if_pos rfl]
    exact⟨upc,upt⟩
   ·rw[if_neg e,if_neg e]
    obtain⟨r1,r2⟩:=t8 k (by omega)
    exact⟨up r1,up r2⟩
  ·obtain⟨q1,q2,q3⟩:=hA.nc k hk
   refine⟨q1,?_,q3⟩
   rcases q2 with c|c
   ·exact(n2 k c).2.1
   ·omega
  ·obtain⟨q1,q2⟩:=hA.nx k hk
   refine⟨q1,?_⟩
   rcases q2 with c|c
   ·exact(n3 k c).2
   ·omega
  ·refine ho.then_ hall (fun b hb=>?_)
   rcases List.mem_cons.1 hb with rfl|hb
   ·exact .inr (t0 b (by simp)).1
   ·rcases List.mem_append.1 hb with hb|hb
    ·exact .inr (t2 b hb).1
    ·exact .inr (t3 b hb).1
end Go.Proofs.YtcidjimefnhacaaGreatDoor
