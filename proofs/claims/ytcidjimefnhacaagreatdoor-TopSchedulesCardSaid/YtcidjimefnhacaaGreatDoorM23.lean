/- TopSchedules, a part of the proof: Hc, EB, EC, ED. -/
import Derived.Test.YtcidjimefnhacaaGreatDoorM22
import Derived.Test.YtcidjimefnhacaaGreatDoorM17
set_option linter.unusedVariables false
set_option linter.unusedSimpArgs false
namespace Go.Proofs.YtcidjimefnhacaaGreatDoor
open Go.RowKit
def NoL (_:World) (fs:List Nat):Prop:=fs=[]
theorem NoL.framed:Framed NoL:=⟨fun h _ _=>h,fun h b hb=>by rw[show _=[] from h] at hb;cases hb⟩
structure Ctx (P:Hp) (Sc:HS) (w:World) (FP:List Nat) (Ls:World->List Nat->Prop) (bx:List (Nat×TypeId×Array Value)) (W:World):Prop where
 g3:(∀b∈FP,3<=b)/\3<=w.heap.size
 only:Only FP w W
 sys:∃FPc fs,HSys P Sc W FPc/\Ls W fs/\(∀b∈FPc,b∈FP\/w.heap.size<=b)/\(∀b∈fs,(b∈FP\/w.heap.size<=b)/\b∉FPc)/\∀x∈bx,x.1∉FPc/\x.1∉fs
 blk:∀x∈bx,Blk W x.1 x.2.1 x.2.2
namespace Ctx
variable {P:Hp} {Sc S2:HS} {w W W':World} {FP:List Nat} {Ls Sn:World->List Nat->Prop} {bx:List (Nat×TypeId×Array Value)}
theorem start (h:HSys P Sc w FP):Ctx P Sc w FP NoL [] w:=⟨⟨h.ge3,h.big⟩,Only.refl _ _,⟨FP,[],h,rfl,fun b hb=>.inl hb,(fun b hb=>by cases hb),(fun x hx=>by cases hx)⟩,(fun x hx=>by cases hx)⟩
theorem mk2 (F:Framed Ls) {FPc fs f':List Nat} (h0:(∀b∈FP,3<=b)/\3<=w.heap.size) (h1:Only FP w W) (h2:HSys P Sc W FPc) (h3:Ls W fs) (h4:∀b∈FPc,b∈FP\/w.heap.size<=b) (h5:∀b∈fs,(b∈FP\/w.heap.size<=b)/\b∉FPc) (h6:∀x∈bx,x.1∉FPc/\x.1∉fs) (h7:∀x∈bx,Blk W x.1 x.2.1 x.2.2)
 (ho:Only FPc W W') (hs:HSys P S2 W' f') (hn:∀b∈f',b∈FPc\/W.heap.size<=b):Ctx P S2 w FP Ls bx W':=by
 refine⟨h0,h1.then_ ho h4,⟨f',fs,hs,F.only h3 ho (fun b hb=>(h5 b hb).2),fun b hb=>?_,fun b hb=>⟨(h5 b hb).1,fun h=>?_⟩,fun x hx=>⟨fun h=>?_,(h6 x hx).2⟩⟩,fun x hx=>(h7 x hx).only ho (h6 x hx).1⟩
 ·rcases hn b hb with h|h
  ·exact h4 b h
  ·exact .inr (Nat.le_trans h1.size h)
 ·rcases hn b h with h8|h8
  ·exact(h5 b hb).2 h8
  ·have:=F.lt h3 b hb;omega
 ·rcases hn _ h with h8|h8
  ·exact(h6 x hx).1 h8
  ·have:=(h7 x hx).lt;omega
theorem mkG {FPc fs f' fs':List Nat} (h0:(∀b∈FP,3<=b)/\3<=w.heap.size) (h1:Only FP w W) (h2:HSys P Sc W FPc) (h4:∀b∈FPc,b∈FP\/w.heap.size<=b) (h6:∀x∈bx,x.1∉FPc/\x.1∉fs) (h7:∀x∈bx,Blk W x.1 x.2.1 x.2.2)
 (ho:Only FPc W W') (hs:HSys P S2 W' f') (hSn:Sn W' fs') (hn:∀b∈f',b∈FPc\/W.heap.size<=b) (hm:∀b∈fs',(b∈FPc\/W.heap.size<=b)/\b∉f'):Ctx P S2 w FP Sn bx W':=by
 have key:∀b,(b∈FPc\/W.heap.size<=b)->b∈FP\/w.heap.size<=b:=fun b h=>h.elim (h4 b) (fun h=>.inr (Nat.le_trans h1.size h))
 have kb:∀x∈bx,¬(x.1∈FPc\/W.heap.size<=x.1):=fun x hx h=>h.elim (h6 x hx).1 (fun h=>by have:=(h7 x hx).lt;omega)
 exact⟨h0,h1.then_ ho h4,⟨f',fs',hs,hSn,fun b hb=>key b (hn b hb),fun b hb=>⟨key b (hm b hb).1,(hm b hb).2⟩,fun x hx=>⟨fun h=>kb x hx (hn _ h),fun h=>kb x hx (hm _ h).1⟩⟩,fun x hx=>(h7 x hx).only ho (h6 x hx).1⟩
theorem still (F:Framed Ls) (h:Ctx P Sc w FP Ls bx W) (ho:Only [] W W'):Ctx P Sc w FP Ls bx W':=by
 obtain⟨h0,h1,⟨FPc,fs,h2,h3,h4,h5,h6⟩,h7⟩:=h
 exact⟨h0,h1.trans ho.of_nil,⟨FPc,fs,h2.still ho,F.still h3 ho,h4,h5,h6⟩,fun x hx=>(h7 x hx).only ho (by simp)⟩
theorem box (h:Ctx P Sc w FP Ls bx W) {x:Nat×TypeId×Array Value} (hx:x∈bx):Blk W x.1 x.2.1 x.2.2:=h.blk x hx
theorem sys_ (h:Ctx P Sc w FP Ls bx W):∃FPc,HSys P Sc W FPc:=by
 obtain⟨h0,h1,⟨FPc,fs,h2,_⟩,h7⟩:=h
 exact⟨FPc,h2⟩
theorem part (h:Ctx P Sc w FP Ls bx W):∃fs,Ls W fs:=by
 obtain⟨h0,h1,⟨FPc,fs,h2,h3,_⟩,h7⟩:=h
 exact⟨fs,h3⟩
theorem push (F:Framed Ls) (h:Ctx P Sc w FP Ls bx W) (cs:Array Value) (t:TypeId):Ctx P Sc w FP Ls ((W.heap.size,t,cs)::bx) (W.alloc (.cells cs t)):=by
 obtain⟨h0,h1,⟨FPc,fs,h2,h3,h4,h5,h6⟩,h7⟩:=h
 have ho:Only [] W (W.alloc (.cells cs t)):=(Only.refl [] W).alloc _
 refine⟨h0,h1.trans ho.of_nil,⟨FPc,fs,h2.still ho,F.still h3 ho,h4,h5,fun x hx=>?_⟩,fun x hx=>?_⟩
 ·rcases List.mem_cons.1 hx with rfl|hx
  ·exact⟨fun hb=>by have:=h2.lt _ hb;simp at this,fun hb=>by have:=F.lt h3 _ hb;simp at this⟩
  ·exact h6 x hx
 ·rcases List.mem_cons.1 hx with rfl|hx
  ·exact Blk.new W t cs
  ·exact(h7 x hx).only ho (by simp)
theorem step (F:Framed Ls) (h:Ctx P Sc w FP Ls bx W) (k:∀FPc,HSys P Sc W FPc->Turns (HSys P S2) W FPc W'):Ctx P S2 w FP Ls bx W':=by
 obtain⟨h0,h1,⟨FPc,fs,h2,h3,h4,h5,h6⟩,h7⟩:=h
 obtain⟨ho,f',hs,hn⟩:=k FPc h2
 exact mk2 F h0 h1 h2 h3 h4 h5 h6 h7 ho hs hn
theorem gives (h:Ctx P Sc w FP NoL bx W) (k:∀FPc,HSys P Sc W FPc->Gives (HSys P S2) Sn W FPc W'):Ctx P S2 w FP Sn bx W':=by
 obtain⟨h0,h1,⟨FPc,fs,h2,h3,h4,h5,h6⟩,h7⟩:=h
 obtain⟨ho,f',fs',hs,hn,hl,hm⟩:=k FPc h2
 exact mkG h0 h1 h2 h4 h6 h7 ho hs hn hl hm
theorem ofGives {S0:HS} (h:HSys P S0 w FP) (k:Gives (HSys P S2) Sn w FP W'):Ctx P S2 w FP Sn [] W':=by
 obtain⟨ho,f',fs',hs,hn,hl,hm⟩:=k
 exact⟨⟨h.ge3,h.big⟩,ho,⟨f',fs',hs,hn,hl,hm,fun x hx=>by cases hx⟩,fun x hx=>by cases hx⟩
theorem drop (h:Ctx P Sc w FP Ls bx W):Ctx P Sc w FP NoL bx W:=by
 obtain⟨h0,h1,⟨FPc,fs,h2,h3,h4,h5,h6⟩,h7⟩:=h
 exact⟨h0,h1,⟨FPc,[],h2,rfl,h4,(fun b hb=>by cases hb),fun x hx=>⟨(h6 x hx).1,by simp⟩⟩,h7⟩
theorem monoL {Ls':World->List Nat->Prop} (h:Ctx P Sc w FP Ls bx W) (hm:∀fs,Ls W fs->Ls' W fs):Ctx P Sc w FP Ls' bx W:=by
 obtain⟨h0,h1,⟨FPc,fs,h2,h3,h4,h5,h6⟩,h7⟩:=h
 exact⟨h0,h1,⟨FPc,fs,h2,hm fs h3,h4,h5,h6⟩,h7⟩
theorem less {bx':List (Nat×TypeId×Array Value)} (h:Ctx P Sc w FP Ls bx W) (hb:∀x∈bx',x∈bx):Ctx P Sc w FP Ls bx' W:=by
 obtain⟨h0,h1,⟨FPc,fs,h2,h3,h4,h5,h6⟩,h7⟩:=h
 exact⟨h0,h1,⟨FPc,fs,h2,h3,h4,h5,fun x hx=>h6 x (hb x hx)⟩,fun x hx=>h7 x (hb x hx)⟩
theorem turns (h:Ctx P Sc w FP Ls bx W):Turns (HSys P Sc) w FP W:=by
 obtain⟨h0,h1,⟨FPc,fs,h2,h3,h4,h5,h6⟩,h7⟩:=h
 exact⟨h1,FPc,h2,h4⟩
theorem setBox {b:Nat} {t:TypeId} {cs:Array Value} (h:Ctx P Sc w FP NoL ((b,t,cs)::bx) W) (hnb:∀x∈bx,x.1≠b) (hnw:w.heap.size<=b) (h3:3<=b) (i:Nat) (u:Value):Ctx P Sc w FP NoL ((b,t,cs.setIfInBounds i u)::bx) (W.setCell ⟨b,i,none⟩ u):=by
 obtain⟨h0,h1,⟨FPc,fs,h2,rfl,h4,h5,h6⟩,h7⟩:=h
 have ho:Only [b] W (W.setCell ⟨b,i,none⟩ u):=(Only.refl [b] W).setCell (p:=⟨b,i,none⟩) (.inl (by simp)) _
 have hb:=(h6 (b,t,cs) (by simp)).1
 refine⟨h0,h1.setCell (p:=⟨b,i,none⟩) (.inr hnw) _,⟨FPc,[],h2.only ho (fun x hx e=>?_) (by simpa using h3),rfl,h4,(fun b hb=>by cases hb),fun x hx=>?_⟩,fun x hx=>?_⟩
 ·simp at e
  subst e
  exact hb hx
 ·rcases List.mem_cons.1 hx with rfl|hx
  ·exact⟨hb,by simp⟩
  ·exact h6 x (mcm _ hx)
 ·rcases List.mem_cons.1 hx with rfl|hx
  ·exact(h7 (b,t,cs) (by simp)).set_ i u
  ·exact(h7 x (mcm _ hx)).only ho (by simpa using hnb x hx)
theorem call {f:FuncId} {args:Array Value} {α:Type} {R:α->Ending->Prop} {S':α->HS} (F:Framed Ls) (h:Ctx P Sc w FP Ls bx W) (k:∀FPc,HSys P Sc W FPc->Calls Tryz.prog f args W fun e w'=>∃x,R x e/\Turns (HSys P (S' x)) W FPc w'):Calls Tryz.prog f args W fun e w'=>∃x,R x e/\Ctx P (S' x) w FP Ls bx w':=by
 obtain⟨h0,h1,⟨FPc,fs,h2,h3,h4,h5,h6⟩,h7⟩:=h
 refine(k FPc h2).mono ?_
 rintro e w' ⟨x,hx,ho,f',hs,hn⟩
 exact⟨x,hx,mk2 F h0 h1 h2 h3 h4 h5 h6 h7 ho hs hn⟩
theorem callB {f:FuncId} {args:Array Value} {α:Type} {R:α->Ending->Prop} {S':α->HS} (F:Framed Ls) (h:Ctx P Sc w FP Ls bx W) (k:∀FPc fs,HSys P Sc W FPc->Ls W fs->(∀b∈fs,b∉FPc)->(∀x∈bx,x.1∉FPc)->Calls Tryz.prog f args W fun e w'=>∃x,R x e/\Turns (HSys P (S' x)) W FPc w'):Calls Tryz.prog f args W fun e w'=>∃x,R x e/\Ctx P (S' x) w FP Ls bx w':=by
 obtain⟨h0,h1,⟨FPc,fs,h2,h3,h4,h5,h6⟩,h7⟩:=h
 refine(k FPc fs h2 h3 (fun b hb=>(h5 b hb).2) (fun x hx=>(h6 x hx).1)).mono ?_
 rintro e w' ⟨x,hx,ho,f',hs,hn⟩
 exact⟨x,hx,mk2 F h0 h1 h2 h3 h4 h5 h6 h7 ho hs hn⟩
theorem callG {f:FuncId} {args:Array Value} {α:Type} {R:α->Ending->Prop} {S':α->HS} {Sn':α->World->List Nat->Prop} (h:Ctx P Sc w FP Ls bx W) (k:∀FPc,HSys P Sc W FPc->Calls Tryz.prog f args W fun e w'=>∃x,R x e/\Gives (HSys P (S' x)) (Sn' x) W FPc w'):Calls Tryz.prog f args W fun e w'=>∃x,R x e/\Ctx P (S' x) w FP (Sn' x) bx w':=by
 obtain⟨h0,h1,⟨FPc,fs,h2,h3,h4,h5,h6⟩,h7⟩:=h
 refine(k FPc h2).mono ?_
 rintro e w' ⟨x,hx,ho,f',fs',hs,hn,hl,hm⟩
 exact⟨x,hx,mkG h0 h1 h2 h4 h6 h7 ho hs hn hl hm⟩
theorem open_ (F:Framed Ls) (h:Ctx P Sc w FP Ls bx W) (i:Ix):∃f,St P Sc i W f/\∀S' W',(∀j,j≠i->St P S' j=St P Sc j)->Turns (St P S' i) W f W'->Ctx P S' w FP Ls bx W':=by
 obtain⟨h0,h1,⟨FPc,fs,h2,h3,h4,h5,h6⟩,h7⟩:=h
 obtain⟨f,hf,hff,hg⟩:=h2.turns i
 refine⟨f,hf,fun S' W' hS hT=>?_⟩
 obtain⟨ho,f',hs,hn⟩:=hg S' W' hS hT
 exact mk2 F h0 h1 h2 h3 h4 h5 h6 h7 ho hs hn
end Ctx
end Go.Proofs.YtcidjimefnhacaaGreatDoor
namespace Go.Proofs.YtcidjimefnhacaaGreatDoor
open Go.RowKit
theorem upd_twice {α:Type} (f:Nat->α) (a:Nat) (x y:α):upd (upd f a x) a y=upd f a y:=by
 funext j
 unfold upd
 split<;>rfl
theorem upd_same {α:Type} (f:Nat->α) (a:Nat):upd f a (f a)=f:=by
 funext j
 unfold upd
 split
 ·rename_i e;rw[e]
 ·rfl
theorem hclear_at {P:Hp} {S:HS} {w:World} {FP:List Nat} (h:HSys P S w FP) {a:Nat} (ha:a<P.na) (o m:Nat) (hm:1<=m) (hom:o+m<=256):Calls Tryz.prog 148 #[.pointer (some ⟨P.pm a,0,none⟩),.int .i64 o,.int .i64 m] w fun e w'=>e=.returned (.int .i64 0)/\Turns (HSys P S) w FP w':=by
 obtain⟨f,hf,_,hg⟩:=h.turns (.pmp a)
 refine(PClear_at (hf.1 ha) o m hm (by omega)).mono ?_
 rintro e w' ⟨rfl,hT⟩
 exact⟨rfl,hg S w' (fun _ _=>rfl) (hT.mono (fun f hf=>⟨fun _=>hf,(PmSt.framed _).lt hf⟩))⟩
theorem hset_at {P:Hp} {S:HS} {w:World} {FP:List Nat} (h:HSys P S w FP) {a:Nat} (ha:a<P.na) (o m:Nat) (hm:1<=m) (hom:o+m<=256) (no:Int) (hn:1<=no/\no<=1000):Calls Tryz.prog 135 #[.pointer (some ⟨P.pm a,0,none⟩),.int .i64 o,.int .i64 m,.int .i64 no] w fun e w'=>e=.returned (.int .i64 0)/\Turns (HSys P S) w FP w':=by
 obtain⟨f,hf,_,hg⟩:=h.turns (.pmp a)
 refine(PSet_at (hf.1 ha) o m hm (by omega) no hn).mono ?_
 rintro e w' ⟨rfl,hT⟩
 exact⟨rfl,hg S w' (fun _ _=>rfl) (hT.mono (fun f hf=>⟨fun _=>hf,(PmSt.framed _).lt hf⟩))⟩
def SameL (L L':Nat->Int):Prop:=∀j,L' j=0↔L j=0
theorem SameL.refl (L:Nat->Int):SameL L L:=fun _=>Iff.rfl
theorem SameL.trans {L L' L'':Nat->Int} (h:SameL L L') (k:SameL L' L''):SameL L L'':=fun j=>(k j).trans (h j)
theorem hunuse_at {P:Hp} {S:HS} {w:World} {FP:List Nat} (h:HSys P S w FP) {a:Nat} (ha:a<P.na) (o m:Nat) (hm:1<=m) (hom:o+m<=256):Calls Tryz.prog 149 #[.pointer (some ⟨P.hu a,0,none⟩),.int .i64 o,.int .i64 m] w fun e w'=>∃v L',e=.returned v/\Turns (HSys P {S with L:=upd S.L a L'}) w FP w'/\SameL (S.L a) L':=by
 obtain⟨f,hf,_,hg⟩:=h.turns (.hug a)
 refine(HUnuse_at (hf.1 ha) o m hm hom).mono ?_
 rintro e w' ⟨v,rfl,h1,L',h2,h3⟩
 refine⟨v,L',rfl,hg _ w' (St_L P S a L') (Turns.in_ h1 ⟨fun _=>?_,(HuSt.framed _ _ _).lt h2⟩),h3⟩
 show HuSt _ _ (upd S.L a L' a) _ _
 rw[upd_at];exact h2
theorem huse_at {P:Hp} {S:HS} {w:World} {FP:List Nat} (h:HSys P S w FP) {a:Nat} (ha:a<P.na) (o m:Nat) (hm:1<=m) (hom:o+m<=256):Calls Tryz.prog 134 #[.pointer (some ⟨P.hu a,0,none⟩),.int .i64 o,.int .i64 m] w fun e w'=>∃v L',e=.returned v/\Turns (HSys P {S with L:=upd S.L a L'}) w FP w'/\SameL (S.L a) L':=by
 obtain⟨f,hf,_,hg⟩:=h.turns (.hug a)
 refine(HUse_at (hf.1 ha) o m hm hom).mono ?_
 rintro e w' ⟨v,rfl,h1,L',h2,h3⟩
 refine⟨v,L',rfl,hg _ w' (St_L P S a L') (Turns.in_ h1 ⟨fun _=>?_,(HuSt.framed _ _ _).lt h2⟩),h3⟩
 show HuSt _ _ (upd S.L a L' a) _ _
 rw[upd_at];exact h2
theorem hgive_at {P:Hp} {S:HS} {w:World} {FP:List Nat} (h:HSys P S w FP) {a:Nat} (ha:a<P.na) (o m:Nat) (hm:0<m) (hom:o+m<=256) (hn:∀x:Int,o<=x->x<o+m->¬bF (S.B a) x):Calls Tryz.prog 150 #[.pointer (some ⟨P.bd a,0,none⟩),.int .i64 o,.int .i64 m] w fun e w'=>∃B',e=.returned (.int .i64 0)/\Turns (HSys P {S with B:=upd S.B a B'}) w FP w'/\∀x,bF B' x↔bF (S.B a) x\/((o:Int)<=x/\x<o+m):=by
 obtain⟨f,hf,_,hg⟩:=h.turns (.bud a)
 refine(bgive_at (hf.1 ha) o m hm hom hn).mono ?_
 rintro e w' ⟨rfl,B',h1,h3,h2⟩
 refine⟨B',rfl,hg _ w' (St_B P S a B') (Turns.in_ h3 ⟨fun _=>?_,(BuSt.framed _ _).lt h1⟩),h2⟩
 show BuSt _ (upd S.B a B' a) _ _
 rw[upd_at];exact h1
theorem ReadsR.only {w w':World} {v:Value} {n:Nat} {l:List (Int×Int)} {L:List Nat} (h:ReadsR w v n l) (ho:Only L w w') (hg:∀g,v.ownBlock=some g->g∉L):ReadsR w' v n l:=by
 obtain⟨A,c,rfl,h⟩:=h
 refine⟨A,c,rfl,fun h0=>?_⟩
 obtain⟨g,rfl,hc⟩:=h h0
 have hn:=hg g rfl
 exact⟨g,rfl,fun j hj=>⟨(ho.cell (World.block_lt_of_cell? w _ (hc j hj).1) hn).trans (hc j hj).1,(ho.cell (World.block_lt_of_cell? w _ (hc j hj).2) hn).trans (hc j hj).2⟩⟩
def HS.bk (S:HS) (a:Nat) (B':Nat->Int->Bool) (L':Nat->Int):HS:={S with B:=upd S.B a B',L:=upd S.L a L'}
theorem HS.bk_same (S:HS) (a:Nat):S.bk a (S.B a) (S.L a)=S:=by unfold HS.bk;rw[upd_same,upd_same]
theorem runCells {P:Hp} {Sc:HS} {w W:World} {FP:List Nat} {b:Nat} {t:TypeId} {x y:Value} (h:Ctx P Sc w FP NoL [(b,t,#[x,y])] W) {a:Nat} (ha:a<P.na):
 W.cell? ⟨P.ar a,4,none⟩=some (.pointer (some ⟨P.pm a,0,none⟩))/\W.cell? ⟨P.ar a,3,none⟩=some (.pointer (some ⟨P.hu a,0,none⟩))/\W.cell? ⟨P.ar a,2,none⟩=some (.pointer (some ⟨P.bd a,0,none⟩))/\W.cell? ⟨b,0,none⟩=some x/\W.cell? ⟨b,1,none⟩=some y:=by
 obtain⟨FPc,hs⟩:=h.sys_
 have hb:=h.box (x:=(b,t,#[x,y])) (by simp)
 exact⟨(hs.acells ha).c4,(hs.acells ha).c3,(hs.acells ha).c2,hb.cell_ 0 rfl,hb.cell_ 1 rfl⟩
def BackP (P:Hp) (S:HS) (a:Nat) (w:World) (FP:List Nat) (n:Nat) (rs:List (Int×Int)) (w':World):Prop:=∃B' L',Turns (HSys P (S.bk a B' L')) w FP w'/\(∀x,bF B' x↔bF (S.B a) x\/∃i,i<n/\(rAt rs i).1<=x/\x<(rAt rs i).1+(rAt rs i).2)/\SameL (S.L a) L'
set_option maxHeartbeats 4000000 in
theorem aback_at {P:Hp} {S:HS} {w:World} {FP:List Nat} (h:HSys P S w FP) {a:Nat} (ha:a<P.na) {v:Value} {n:Nat} {rs:List (Int×Int)} (hr:ReadsR w v n rs) (hv:∀g,v.ownBlock=some g->g∉FP) (hn:n=rs.length) (hn9:n<=1024)
 (hok:∀i,i<n->0<=(rAt rs i).1/\1<=(rAt rs i).2/\(rAt rs i).1+(rAt rs i).2<=256) (hap:∀i j,i<j->j<n->∀x,(rAt rs i).1<=x->x<(rAt rs i).1+(rAt rs i).2->(rAt rs j).1<=x->x<(rAt rs j).1+(rAt rs j).2->False)
 (hfree:∀i,i<n->∀x,(rAt rs i).1<=x->x<(rAt rs i).1+(rAt rs i).2->¬bF (S.B a) x):
 Calls Tryz.prog 120 #[.pointer (some ⟨P.ar a,0,none⟩),v] w fun e w'=>e=.returned (.tuple #[])/\BackP P S a w FP n rs w':=by
 have HH:=Lib.hid h
 have HA:=Lib.hid ha
 have HR:=Lib.hid hr
 have HV:=Lib.hid hv
 have HOK:=Lib.hid hok
 have HAP:=Lib.hid hap
 have HF:=Lib.hid hfree
 have HLT:=Lib.hid (fun (W:World) (h:Only FP w W)=>hr.only h hv)
 obtain⟨A,c,rfl,_⟩:=hr
 clear h ha hv hok hap hfree hn
 go_enter Tryz.func120,Tryz.ntmps120
 go_wp2_with fail
 go_loopw[8] (fun t wr=>∃i:Nat,i<=n/\t=.int .i64 i/\∃B' L',Ctx P (S.bk a B' L') w FP NoL [] wr/\Hid (∀x,bF B' x↔bF (S.B a) x\/∃j,j<i/\(rAt rs j).1<=x/\x<(rAt rs j).1+(rAt rs j).2)/\Hid (SameL (S.L a) L')) (fun t _=>n-(intOf t).toNat)
 case atStart=>
  refine⟨0,Nat.zero_le _,rfl,S.B a,S.L a,?_,fun x=>?_,SameL.refl _⟩
  ·rw[HS.bk_same];exact Ctx.start HH.out
  ·exact⟨fun h=>.inl h,fun h=>h.resolve_right (fun ⟨j,hj,_⟩=>absurd hj (Nat.not_lt_zero j))⟩
 case round=>
  obtain⟨i,hi,rfl,B',L',hctx,HB,HL⟩:=hrel
  have HC:=Lib.hid hctx
  by_cases hlt:i<n
  ·have d1:decide ((i:Int)<n)=true:=decide_eq_true (by omega)
   have d1':decide (i<n)=true:=decide_eq_true hlt
   obtain⟨A',c',e,hcells⟩:=HLT.out wr hctx.only
   injection e with e1 _ e3
   subst e1 e3
   obtain⟨g,rfl,hc⟩:=hcells (by omega)
   obtain⟨c1,c2⟩:=hc i hlt
   obtain⟨k0,k1,k2⟩:=HOK.out i hlt
   have hfr:=HF.out i hlt
   have hap:=HAP.out
   obtain⟨o,ho⟩:∃o:Nat,(rAt rs i).1=o:=⟨(rAt rs i).1.toNat,by omega⟩
   obtain⟨m,hm⟩:∃m:Nat,(rAt rs i).2=m:=⟨(rAt rs i).2.toNat,by omega⟩
   have HOM:=Lib.hid (And.intro ho hm)
   rw[ho] at c1 hfr k2
   rw[hm] at c2 hfr k1 k2
   have hnb:∀x:Int,o<=x->x<o+m->¬bF B' x:=fun x h1 h2 hb=>by
    rcases (HB.out x).1 hb with h|⟨j,hj,h3,h4⟩
    ·exact hfr x h1 h2 h
    ·exact hap j i hj hlt x h3 h4 (by rw[ho];exact h1) (by rw[ho,hm];exact h2)
   have hbx:=hctx.push NoL.framed #[.int .i64 o,.int .i64 m] 243
   have CC:=Lib.hid (fun (W:World) (hc:Ctx P (S.bk a B' L') w FP NoL [(wr.heap.size,243,#[.int .i64 o,.int .i64 m])] W)=>hc.call (α:=Unit) (R:=fun _ e=>e=.returned (.int .i64 0)) (S':=fun _=>S.bk a B' L') NoL.framed (fun FPc hs=>(hclear_at hs HA.out o m (by omega) (by omega)).mono (fun e w' ⟨h1,h2⟩=>⟨(),h1,h2⟩)))
   have CU:=Lib.hid (fun (W:World) (hc:Ctx P (S.bk a B' L') w FP NoL [(wr.heap.size,243,#[.int .i64 o,.int .i64 m])] W)=>hc.call (α:=Value×(Nat->Int)) (R:=fun x e=>e=.returned x.1/\SameL L' x.2) (S':=fun x=>S.bk a B' x.2) NoL.framed (fun FPc hs=>(hunuse_at hs HA.out o m (by omega) (by omega)).mono (fun e w' ⟨v,L2,h1,h2,h3⟩=>⟨(v,L2),⟨h1,by
    have h4:(S.bk a B' L').L a=L':=upd_at
    rw[h4] at h3;exact h3⟩,by
    have h5:{S.bk a B' L' with L:=upd (S.bk a B' L').L a L2}=S.bk a B' L2:=by unfold HS.bk;rw[upd_twice]
    rw[h5] at h2;exact h2⟩)))
   have CG:=Lib.hid (fun (W:World) (L2:Nat->Int) (hc:Ctx P (S.bk a B' L2) w FP NoL [(wr.heap.size,243,#[.int .i64 o,.int .i64 m])] W)=>hc.call (α:=Nat->Int->Bool) (R:=fun B2 e=>e=.returned (.int .i64 0)/\∀x,bF B2 x↔bF B' x\/((o:Int)<=x/\x<o+m)) (S':=fun B2=>S.bk a B2 L2) NoL.framed (fun FPc hs=>(hgive_at hs HA.out o m (by omega) (by omega) (by
    have h4:(S.bk a B' L2).B a=B':=upd_at
    rw[h4];exact hnb)).mono (fun e w' ⟨B2,h1,h2,h3⟩=>⟨B2,⟨h1,by
    have h4:(S.bk a B' L2).B a=B':=upd_at
    rw[h4] at h3;exact h3⟩,by
    have h5:{S.bk a B' L2 with B:=upd (S.bk a B' L2).B a B2}=S.bk a B2 L2:=by unfold HS.bk;rw[upd_twice]
    rw[h5] at h2;exact h2⟩)))
   clear hctx hcells hc k0 hfr hap ho hm hnb
   go_wp2_with fail
   generalize wr.alloc (.cells #[.int .i64 o,.int .i64 m] 243)=w1 at *
   have hbd:=hbx.still NoL.framed ((Only.refl [] w1).drew)
   clear hbx c1 c2
   go_region_held3 (fun W=>W.cell? ⟨P.ar a,4,none⟩=some (.pointer (some ⟨P.pm a,0,none⟩))/\W.cell? ⟨wr.heap.size,0,none⟩=some (.int .i64 o)/\W.cell? ⟨wr.heap.size,1,none⟩=some (.int .i64 m))
    (exact⟨(runCells (by assumption) HA.out).1,(runCells (by assumption) HA.out).2.2.2⟩)
    (first
     |(go_at_call 148;with_reducible refine Calls.mono (CC.out _ hbd) ?_;rintro _ wN ⟨_,rfl,hbN⟩;replace hbd:=hbN;clear hbN))
   go_wp2_with fail
   clear CC
   replace hbd:=hbd.still NoL.framed ((Only.refl [] wN).drew)
   go_region_held3 (fun W=>W.cell? ⟨P.ar a,3,none⟩=some (.pointer (some ⟨P.hu a,0,none⟩))/\W.cell? ⟨wr.heap.size,0,none⟩=some (.int .i64 o)/\W.cell? ⟨wr.heap.size,1,none⟩=some (.int .i64 m))
    (exact⟨(runCells (by assumption) HA.out).2.1,(runCells (by assumption) HA.out).2.2.2⟩)
    (first
     |(go_at_call 149;with_reducible refine Calls.mono (CU.out _ hbd) ?_;rintro _ wM ⟨⟨vM,L2⟩,⟨rfl,hL2⟩,hbN⟩;replace hbd:=hbN;clear hbN))
   go_wp2_with fail
   clear CU
   have HL2:=Lib.hid (HL.out.trans hL2)
   clear hL2
   replace hbd:=hbd.still NoL.framed ((Only.refl [] wM).drew)
   go_region_held3 (fun W=>W.cell? ⟨P.ar a,2,none⟩=some (.pointer (some ⟨P.bd a,0,none⟩))/\W.cell? ⟨wr.heap.size,0,none⟩=some (.int .i64 o)/\W.cell? ⟨wr.heap.size,1,none⟩=some (.int .i64 m))
    (exact⟨(runCells (by assumption) HA.out).2.2.1,(runCells (by assumption) HA.out).2.2.2⟩)
    (first
     |(go_at_call 150;with_reducible refine Calls.mono (CG.out _ _ hbd) ?_;rintro _ wK ⟨B2,⟨rfl,hB2⟩,hbN⟩;replace hbd:=hbN;clear hbN))
   have HB2:=Lib.hid hB2
   clear hB2 CG
   go_wp2_with fail
   go_roundw
   case rel=>
    refine⟨i+1,by omega,by go_num,B2,L2,hbd.less (by simp),fun x=>?_,HL2.out⟩
    rw[HB2.out,HB.out]
    obtain⟨ho,hm⟩:=HOM.out
    constructor
    ·rintro ((h|⟨j,hj,h⟩)|h)
     ·exact .inl h
     ·exact .inr ⟨j,by omega,h⟩
     ·exact .inr ⟨i,by omega,by rw[ho,hm];exact h⟩
    ·rintro (h|⟨j,hj,h⟩)
     ·exact .inl (.inl h)
     ·rcases Nat.lt_or_ge j i with h1|h1
      ·exact .inl (.inr ⟨j,h1,h⟩)
      ·have e:j=i:=by omega
       subst e
       rw[ho,hm] at h
       exact .inr h
   case measure=>simp[intOf];omega
  ·have e:i=n:=by omega
   subst e
   have d1:decide ((i:Int)<i)=false:=decide_eq_false (by omega)
   clear hctx
   go_wp2_with fail
   go_end0
   exact⟨rfl,B',L',HC.out.turns,HB.out,HL.out⟩
theorem hmap_at {P:Hp} {S:HS} {w:World} {FP:List Nat} (h:HSys P S w FP) (a b:Int) (ha:I64 a) (hb:I64 b):Calls Tryz.prog 160 #[.pointer (some ⟨P.sp,0,none⟩),.int .i64 a,.int .i64 b] w fun e w'=>e=.returned (.int .i64 (S.sp.mapE a b))/\Turns (HSys P {S with sp:=S.sp.mapM a b}) w FP w':=by
 obtain⟨f,hf,_,hg⟩:=h.turns .spc
 refine(V.Map_any h.env hf a b ha hb).mono ?_
 rintro e w' ⟨rfl,ho,l',h1,h2⟩
 exact⟨rfl,hg _ w' (St_sp P S _) ⟨ho,l',h1,h2⟩⟩
theorem hpages_at {P:Hp} {S:HS} {w:World} {FP:List Nat} (h:HSys P S w FP):Still Tryz.prog 61 #[.pointer (some ⟨P.sp,0,none⟩)] w (.int .i64 S.sp.n):=by
 obtain⟨f,hf,_⟩:=h.turn .spc
 exact V.Pages_any hf
theorem hadd_at {P:Hp} {S:HS} {w:World} {FP:List Nat} (h:HSys P S w FP) {a:Nat} (ha:a<P.na) (k:Nat) (hk:16*k+16<=256) (hU:∀j,S.L a j=0↔S.L a (16*(j/16))=0):Calls Tryz.prog 161 #[.pointer (some ⟨P.hu a,0,none⟩),.int .i64 k] w fun e w'=>∃v L',e=.returned v/\Turns (HSys P {S with L:=upd S.L a L'}) w FP w'/\
 ∀j,L' j≠0↔S.L a j≠0\/(16*k<=j/\j<16*k+16):=by
 obtain⟨f,hf,_,hg⟩:=h.turns (.hug a)
 have h1:HuSt 256 (P.hu a) (S.L a) w f:=hf.1 ha
 refine(HAdd_at h1 k hk).mono ?_
 rintro e w' ⟨v,rfl,⟨h0,rfl⟩|⟨h0,ho,h2⟩⟩
 ·refine⟨v,S.L a,rfl,hg _ _ (St_L P S a _) (Turns.in_ (Only.refl _ _) ⟨fun _=>?_,hf.2⟩),fun j=>⟨fun h=>.inl h,fun h=>?_⟩⟩
  ·show HuSt _ _ (upd S.L a _ a) _ _
   rw[upd_at];exact h1
  ·rcases h with h|⟨h3,h4⟩
   ·exact h
   ·rw[Ne,hU j,show 16*(j/16)=16*k by omega];exact h0
 ·refine⟨v,fun j=>if 16*k<=j/\j<16*k+16 then 3 else S.L a j,rfl,hg _ _ (St_L P S a _) (Turns.in_ ho ⟨fun _=>?_,(HuSt.framed _ _ _).lt h2⟩),fun j=>?_⟩
  ·show HuSt _ _ (upd S.L a _ a) _ _
   rw[upd_at];exact h2
  ·dsimp only
   split
   ·rename_i hj
    exact⟨fun _=>.inr hj,fun _=>by decide⟩
   ·rename_i hj
    exact⟨fun h=>.inl h,fun h=>h.resolve_right hj⟩
def HS.gw (S:HS) (a s:Nat) (B':Nat->Int->Bool) (L':Nat->Int):HS:={S with sp:=S.sp.setR s 16 1,B:=upd S.B a B',L:=upd S.L a L'}
structure Gwn (S:HS) (a s:Nat) (B':Nat->Int->Bool) (L':Nat->Int):Prop where
 s1:s%16=0/\16<=s/\s+16<=256
 st:∀x:Int,s<=x->x<s+16->S.sp.st x=0
 b:∀x,bF B' x↔bF (S.B a) x\/((s:Int)<=x/\x<s+16)
 l:∀j,L' j≠0↔S.L a j≠0\/(s<=j/\j<s+16)
def GrewP (P:Hp) (S:HS) (a:Nat) (w:World) (FP:List Nat) (e:Ending) (w':World):Prop:=
 (e=.returned (.bool false)/\Turns (HSys P S) w FP w')\/(e=.returned (.bool true)/\∃s B' L',Gwn S a s B' L'/\Turns (HSys P (S.gw a s B' L')) w FP w')
set_option maxHeartbeats 4000000 in
theorem agrow_at {P:Hp} {S:HS} {w:World} {FP:List Nat} (h:HSys P S w FP) {a:Nat} (ha:a<P.na) (hn:S.sp.n=256) (hfree:∀x,S.sp.st x=0->¬bF (S.B a) x) (hU:∀j,S.L a j=0↔S.L a (16*(j/16))=0):
 Calls Tryz.prog 133 #[.pointer (some ⟨P.ar a,0,none⟩),.int .i64 16] w (GrewP P S a w FP):=by
 have HH:=Lib.hid h
 have HA:=Lib.hid ha
 have HN:=Lib.hid hn
 have HF:=Lib.hid hfree
 have HU:=Lib.hid hU
 clear h ha hn hfree hU
 go_enter Tryz.func133,Tryz.ntmps133
 go_wp2_with fail
 go_loopw[5] (fun t wr=>∃s:Nat,16<=s/\s<=256/\t=.int .i64 s/\s%16=0/\Ctx P S w FP NoL [] wr) (fun t _=>256-(intOf t).toNat)
 case atStart=>exact⟨16,by decide,by decide,rfl,by decide,Ctx.start HH.out⟩
 case round=>
  obtain⟨s,h1,h2,rfl,h3,hctx⟩:=hrel
  have HC:=Lib.hid hctx
  obtain⟨FPc,hs⟩:=hctx.sys_
  have c1:=(hs.acells HA.out).c1
  have CP:=Lib.hid (hpages_at hs)
  rw[HN.out] at CP
  have HM:=Lib.hid h3
  obtain⟨q,hq⟩:∃q,s=16*q:=⟨s/16,by omega⟩
  have HQ:=Lib.hid hq
  have tq:((s:Int)).tdiv 16=(q:Int):=by rw[Int.tdiv_eq_ediv_of_nonneg (by omega)];omega
  have tq1:((s:Int)+16).tdiv 16=(q:Int)+1:=by rw[Int.tdiv_eq_ediv_of_nonneg (by omega)];omega
  have hq16:q<=16:=by omega
  clear hctx hs h3 hq
  by_cases hlt:s+16<=256
  ·have d1:decide ((s:Int)+16<=256)=true:=decide_eq_true (by omega)
   have CM:=Lib.hid (HC.out.call (α:=Unit) (R:=fun _ e=>e=.returned (.int .i64 (S.sp.mapE s 16))) (S':=fun _=>{S with sp:=S.sp.mapM s 16}) NoL.framed (fun FPc hs=>(hmap_at hs s 16 (by unfold I64;omega) (by unfold I64;omega)).mono (fun e w' ⟨h1,h2⟩=>⟨(),h1,h2⟩)))
   by_cases hE:S.sp.mapE s 16=0
   ·have HZ:Hid (∀x:Int,s<=x->x<s+16->S.sp.st x=0):=by
     intro x hx1 hx2
     unfold V.SpM.mapE at hE
     split at hE
     ·cases hE
     ·split at hE
      ·cases hE
      ·rename_i hno
       have h5:¬(S.sp.st x != 0)=true:=fun h5=>hno (V.anyTo_true.2 ⟨(x-s).toNat,by omega,by rw[show(s:Int)+((x-s).toNat:Nat)=x by omega];exact h5⟩)
       simpa using h5
    have HE:Hid (S.sp.mapM s 16=S.sp.setR s 16 1):=by
     show S.sp.mapM s 16=_
     unfold V.SpM.mapM;rw[if_pos hE]
    rw[hE,HE.out] at CM
    clear hE
    go_wp2_with (first|(go_at_call 61;with_reducible refine Still.use CP.out ?_))
    refine CM.out.mono ?_
    rintro r w1 ⟨_,rfl,hc1⟩
    have HC1:=Lib.hid hc1
    clear hc1 CM CP
    go_wp2_with fail
    go_loopw[6] (fun t wr=>∃k:Nat,t=.int .i64 k/\k<=q+1/\((k=q/\Ctx P {S with sp:=S.sp.setR s 16 1} w FP NoL [] wr)\/(k=q+1/\∃L',Ctx P {S with sp:=S.sp.setR s 16 1,L:=upd S.L a L'} w FP NoL [] wr/\∀j,L' j≠0↔S.L a j≠0\/(s<=j/\j<s+16)))) (fun t _=>q+1-(intOf t).toNat)
    case atStart=>exact⟨q,rfl,by omega,.inl ⟨rfl,HC1.out⟩⟩
    case round=>
     obtain⟨k,rfl,hk,hcase⟩:=hrel
     rcases hcase with ⟨hkq,hc⟩|⟨hkq,L',hc,hL⟩
     ·have HKQ:=Lib.hid hkq
      obtain⟨FPd,hsd⟩:=hc.sys_
      have c3:=(hsd.acells HA.out).c3
      have CA:=Lib.hid (hc.call (α:=Value×(Nat->Int)) (R:=fun x e=>e=.returned x.1/\∀j,x.2 j≠0↔S.L a j≠0\/(s<=j/\j<s+16)) (S':=fun x=>{S with sp:=S.sp.setR s 16 1,L:=upd S.L a x.2}) NoL.framed (fun FPc hs=>(hadd_at hs HA.out k (by have:=HQ.out;omega) HU.out).mono (fun e w' ⟨v,L2,h1,h2,h3⟩=>⟨(v,L2),⟨h1,by rw[HQ.out,<-hkq];exact h3⟩,h2⟩)))
      have d2:decide ((k:Int)<(q:Int)+1)=true:=decide_eq_true (by omega)
      have hk1:(k:Int)<(q:Int)+1:=by omega
      clear hkq hc hsd
      go_wp2_with fail
      refine CA.out.mono ?_
      rintro r w2 ⟨⟨v,L2⟩,⟨rfl,hL2⟩,hc2⟩
      have HC2:=Lib.hid hc2
      have HL2:=Lib.hid hL2
      clear hL2 hc2 CA
      go_wp2_with fail
      go_roundw
      case rel=>exact⟨k+1,by go_num,by have:=HKQ.out;omega,.inr ⟨by rw[HKQ.out],L2,HC2.out,HL2.out⟩⟩
      case measure=>simp[intOf];omega
     ·have HKQ:=Lib.hid hkq
      have HC2:=Lib.hid hc
      have HL2:=Lib.hid hL
      obtain⟨FPd,hsd⟩:=hc.sys_
      have c2:=(hsd.acells HA.out).c2
      have CG:=Lib.hid (hc.call (α:=Nat->Int->Bool) (R:=fun B2 e=>e=.returned (.int .i64 0)/\∀x,bF B2 x↔bF (S.B a) x\/((s:Int)<=x/\x<s+16)) (S':=fun B2=>S.gw a s B2 L') NoL.framed (fun FPc hs=>(hgive_at hs HA.out s 16 (by decide) hlt (fun x hx1 hx2=>HF.out x (HZ.out x hx1 (by omega)))).mono (fun e w' ⟨B2,h1,h2,h3⟩=>⟨B2,⟨h1,h3⟩,h2⟩)))
      have d2:decide ((k:Int)<(q:Int)+1)=false:=decide_eq_false (by omega)
      have hk1:¬(k:Int)<(q:Int)+1:=by omega
      clear hkq hc hsd hL
      go_wp2_with fail
      refine CG.out.mono ?_
      rintro r w2 ⟨B2,⟨rfl,hB2⟩,hc3⟩
      have HC3:=Lib.hid hc3
      have HB2:=Lib.hid hB2
      clear hc3 hB2 CG
      go_wp2_with fail
      go_ret
      exact .inr ⟨rfl,s,B2,L',⟨⟨HM.out,h1,hlt⟩,HZ.out,HB2.out,HL2.out⟩,HC3.out.turns⟩
   ·have HE:Hid (S.sp.mapM s 16=S.sp):=by
     show S.sp.mapM s 16=_
     unfold V.SpM.mapM;rw[if_neg hE]
    rw[HE.out] at CM
    generalize S.sp.mapE s 16=E at *
    have hb:(E != 0)=true:=bne_iff_ne.2 hE
    clear hE
    go_wp2_with (first|(go_at_call 61;with_reducible refine Still.use CP.out ?_))
    refine CM.out.mono ?_
    rintro r w1 ⟨_,rfl,hc1⟩
    have HC1:=Lib.hid hc1
    clear hc1 CM CP
    go_wp2_with fail
    go_roundw
    case rel=>exact⟨s+16,by omega,by omega,by go_num,by have:=HM.out;omega,HC1.out⟩
    case measure=>simp[intOf];omega
  ·have d1:decide ((s:Int)+16<=256)=false:=decide_eq_false (by omega)
   go_wp2_with (first|(go_at_call 61;with_reducible refine Still.use CP.out ?_))
   go_ret
   exact .inl ⟨rfl,HC.out.turns⟩
end Go.Proofs.YtcidjimefnhacaaGreatDoor
