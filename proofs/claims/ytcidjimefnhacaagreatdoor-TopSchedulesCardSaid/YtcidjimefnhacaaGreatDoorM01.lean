/- TopSchedules, a part of the proof: Base, SzPure, SzA, SzB, Grew, SzC, SzD. -/
import Derived.Test.YtcidjimefnhacaaGreatDoorRows
import Derived.WalkKit
import Derived.WalkSpells
import Derived.WalkLawsBesides
import Derived.BigQuiet
import Derived.Deep.QuietTactic
import Derived.Deep.RegionHeld3
import Derived.Deep.DeepMust
import Derived.Deep.DeepFit
import Derived.Deep.LoopGhost
import Derived.StillTailTactics
import Derived.Lib.Hide
set_option linter.unusedVariables false
set_option linter.unusedSimpArgs false
namespace Go.Proofs.YtcidjimefnhacaaGreatDoor
open Go.RowKit
theorem mcs.{u} {α:Type u} {a:α} {l:List α}:a∈a::l:=List.mem_cons_self
theorem mcm.{u} {α:Type u} {a:α} {l:List α} (b:α) (h:a∈l):a∈b::l:=List.mem_cons_of_mem b h
def I64 (a:Int):Prop:= -9223372036854775808<=a/\a<=9223372036854775807
def Still (P:Program) (f:FuncId) (args:Array Value) (w:World) (v:Value):Prop:=Calls P f args w fun e w'=>e=.returned v/\w=w'
def Dr (w w':World):Prop:=∃n,w.drewN n=w'
namespace Dr
variable {w w' w'':World}
theorem refl (w:World):Dr w w:=⟨0,rfl⟩
theorem drewN (h:Dr w w') (n:Nat):Dr w (w'.drewN n):=by obtain⟨m,rfl⟩:=h;exact⟨m+n,by rw[World.drewN_drewN]⟩
theorem drew (h:Dr w w'):Dr w w'.drew:=h.drewN 1
theorem trans (h:Dr w w') (k:Dr w' w''):Dr w w'':=by obtain⟨m,rfl⟩:=k;exact h.drewN m
end Dr
def Quiet (P:Program) (f:FuncId) (args:Array Value) (w:World) (v:Value):Prop:=Calls P f args w fun e w'=>e=.returned v/\Dr w w'
section
variable {P:Program} {f:FuncId} {args:Array Value} {w:World} {v:Value} {R:Ending->World->Prop}
theorem Still.use (h:Still P f args w v) (hR:R (.returned v) w):Calls P f args w R:=h.mono (by rintro e w' ⟨rfl,rfl⟩;exact hR)
theorem Quiet.use (h:Quiet P f args w v) (hR:∀n,R (.returned v) (w.drewN n)):Calls P f args w R:=h.mono (by rintro e w' ⟨rfl,n,rfl⟩;exact hR n)
theorem Still.quiet (h:Still P f args w v):Quiet P f args w v:=h.mono (by rintro e w' ⟨rfl,rfl⟩;exact⟨rfl,0,rfl⟩)
theorem Quiet.q {n:Nat} (h:Quiet P f args (w.drewN n) v):Calls P f args (w.drewN n) fun e w''=>e=.returned v/\∃m,w''=w.drewN m:=
 h.mono (by rintro e w' ⟨rfl,m,rfl⟩;exact⟨rfl,n+m,by rw[World.drewN_drewN]⟩)
theorem Quiet.qa {a n:Nat} (h:Quiet P f args (w.drewN (a+n)) v):Calls P f args (w.drewN (a+n)) fun e w''=>e=.returned v/\∃m,w''=w.drewN (a+m):=
 h.mono (by rintro e w' ⟨rfl,m,rfl⟩;exact⟨rfl,n+m,by rw[World.drewN_drewN,Nat.add_assoc]⟩)
end
structure Only (l:List Nat) (w w':World):Prop where
 os:w'.os=w.os
 tape:w'.tape=w.tape
 output:w'.output=w.output
 size:w.heap.size<=w'.heap.size
 block:∀k,k<w.heap.size->k∉l->w'.heap[k]? =w.heap[k]?
namespace Only
variable {l l':List Nat} {a b c w w':World}
theorem of_dr (h:Dr a b):Only l a b:=by
 obtain⟨n,rfl⟩:=h
 exact⟨rfl,rfl,rfl,Nat.le_refl _,fun _ _ _=>rfl⟩
theorem refl (l:List Nat) (w:World):Only l w w:=⟨rfl,rfl,rfl,Nat.le_refl _,fun _ _ _=>rfl⟩
theorem trans (h:Only l a b) (k:Only l b c):Only l a c:=
 ⟨k.os.trans h.os,k.tape.trans h.tape,k.output.trans h.output,Nat.le_trans h.size k.size,fun i hi hn=>(k.block i (Nat.lt_of_lt_of_le hi h.size) hn).trans (h.block i hi hn)⟩
theorem mono (h:Only l a b) (hl:∀k,k∈l->k∈l'):Only l' a b:=⟨h.os,h.tape,h.output,h.size,fun i hi hn=>h.block i hi (fun hk=>hn (hl i hk))⟩
theorem of_nil (h:Only [] a b):Only l a b:=h.mono (by simp)
theorem drew (h:Only l a w):Only l a w.drew:=⟨h.os,h.tape,h.output,h.size,h.block⟩
theorem drewN (h:Only l a w) (n:Nat):Only l a (w.drewN n):=⟨h.os,h.tape,h.output,h.size,h.block⟩
theorem alloc (h:Only l a w) (o:Obj):Only l a (w.alloc o):=
 ⟨h.os,h.tape,h.output,Nat.le_trans h.size (by simp),fun i hi hn=>(Below.heap_alloc w o i (Nat.lt_of_lt_of_le hi h.size)).trans (h.block i hi hn)⟩
theorem setCell (h:Only l a w) {p:Addr} (hp:p.block∈l\/a.heap.size<=p.block) (u:Value):Only l a (w.setCell p u):=
 ⟨h.os,h.tape,h.output,by simpa[World.setCell] using h.size,fun i hi hn=>(Below.heap_setCell w p u i (by
  rintro rfl
  rcases hp with hp|hp
  ·exact hn hp
  ·omega)).trans (h.block i hi hn)⟩
theorem below (h:Only [] a b):Below a.heap.size a b:=⟨h.os,h.tape,h.output,h.size,fun k hk=>h.block k hk (by simp)⟩
theorem of_below (h:Below a.heap.size a b):Only l a b:=⟨h.os,h.tape,h.output,h.size,fun k hk _=>h.block k hk⟩
theorem fresh (h:Only l a b) (hl:∀k,k∈l->a.heap.size<=k):Only [] a b:=⟨h.os,h.tape,h.output,h.size,fun i hi _=>h.block i hi (fun hk=>by have:=hl i hk;omega)⟩
theorem then_ (h:Only l a b) (k:Only l' b c) (hl:∀i,i∈l'->i∈l\/a.heap.size<=i):Only l a c:=
 ⟨k.os.trans h.os,k.tape.trans h.tape,k.output.trans h.output,Nat.le_trans h.size k.size,fun i hi hn=>
  (k.block i (Nat.lt_of_lt_of_le hi h.size) (fun hk=>by rcases hl i hk with h1|h1;exact hn h1;omega)).trans (h.block i hi hn)⟩
theorem grown (h:Only l a w) {row:Option Nat} (hg:w.grownBy w' row) (hr:∀k,row=some k->k∈l\/a.heap.size<=k):Only l a w':=
 ⟨hg.os.trans h.os,hg.tape.trans h.tape,hg.output.trans h.output,Nat.le_trans h.size hg.size,fun i hi hn=>
  (hg.block i (Nat.lt_of_lt_of_le hi h.size) (fun e=>by rcases hr i e.symm with h1|h1;exact hn h1;omega)).trans (h.block i hi hn)⟩
theorem cell (h:Only l a b) {p:Addr} (hp:p.block<a.heap.size) (hn:p.block∉l):b.cell? p=a.cell? p:=World.cell?_of_block (w:=a) (h.block p.block hp hn)
theorem frozen (h:Only l a b) {p:Addr} (hp:p.block<a.heap.size) (hn:p.block∉l):b.frozen? p=a.frozen? p:=World.frozen?_of_block (w:=a) (h.block p.block hp hn)
end Only
def Grew (P:Program) (f:FuncId) (args:Array Value) (w:World) (v:Value):Prop:=Calls P f args w fun e w'=>e=.returned v/\Only [] w w'
theorem Grew.use {P:Program} {f:FuncId} {args:Array Value} {w:World} {v:Value} {R:Ending->World->Prop} (h:Grew P f args w v) (hR:∀w',Only [] w w'->R (.returned v) w'):Calls P f args w R:=h.mono (by rintro e w' ⟨rfl,ho⟩;exact hR _ ho)
def Blk (w:World) (g:Nat) (t:TypeId) (cs:Array Value):Prop:=w.heap[g]? =some (.cells cs t (0,0))
namespace Blk
variable {w w':World} {g:Nat} {t:TypeId} {cs:Array Value}
theorem lt (h:Blk w g t cs):g<w.heap.size:=(Array.getElem?_eq_some_iff.1 h).1
theorem cell (h:Blk w g t cs) (i:Nat):w.cell? ⟨g,i,none⟩=cs[i]? :=cell_of_row w g i cs t (0,0) h
theorem cell_ (h:Blk w g t cs) (i:Nat) {v:Value} (hv:cs[i]? =some v):w.cell? ⟨g,i,none⟩=some v:=(h.cell i).trans hv
theorem frozen (h:Blk w g t cs) (i:Nat):w.frozen? ⟨g,i,none⟩=false:=by
 unfold Blk at h
 simp[World.frozen?,h]
theorem new (w:World) (t:TypeId) (cs:Array Value):Blk (w.alloc (.cells cs t)) w.heap.size t cs:=heap_alloc_new w _
theorem drew (h:Blk w g t cs):Blk w.drew g t cs:=h
theorem drewN (h:Blk w g t cs) (n:Nat):Blk (w.drewN n) g t cs:=h
theorem alloc (h:Blk w g t cs) (o:Obj):Blk (w.alloc o) g t cs:=(Below.heap_alloc w o g h.lt).trans h
theorem set_ (h:Blk w g t cs) (i:Nat) (u:Value):Blk (w.setCell ⟨g,i,none⟩ u) g t (cs.setIfInBounds i u):=by
 unfold Blk at h ⊢
 simp[World.setCell,Array.getElem?_modify,h]
theorem far (h:Blk w g t cs) {p:Addr} (hp:g≠p.block) (u:Value):Blk (w.setCell p u) g t cs:=(Below.heap_setCell w p u g hp).trans h
theorem only {l:List Nat} (h:Blk w g t cs) (ho:Only l w w') (hg:g∉l):Blk w' g t cs:=(ho.block g h.lt hg).trans h
theorem ne_ {g':Nat} {t':TypeId} {cs':Array Value} (h:Blk w g t cs) (h':Blk w g' t' cs') (hne:t≠t'):g≠g':=by
 rintro rfl
 unfold Blk at h h'
 rw[h] at h'
 injection h' with h'
 injection h' with _ ht
 exact hne ht
end Blk
theorem own_drewN {w:World} {base:Nat} {e:TypeId} {size n:Nat} {v:Value} {xs:List Value} (h:w.ownsRow base e size v n xs) (k:Nat):(w.drewN k).ownsRow base e size v n xs:=h
theorem own_only {w w':World} {l:List Nat} {base:Nat} {e:TypeId} {size n:Nat} {v:Value} {xs:List Value} (h:w.ownsRow base e size v n xs) (ho:Only l w w') (hn:∀k,v.ownBlock=some k->k∉l):w'.ownsRow base e size v n xs:=by
 obtain⟨h1,h2⟩:=h
 refine⟨h1,?_⟩
 rcases h2 with h2|⟨g,cap,cur,rfl,hg,hh,r⟩
 ·exact Or.inl h2
 ·exact Or.inr ⟨g,cap,cur,rfl,hg,(ho.block g (Array.getElem?_eq_some_iff.1 hh).1 (hn g rfl)).trans hh,r⟩
theorem own_base {w:World} {base:Nat} {e:TypeId} {size n:Nat} {v:Value} {xs:List Value} (h:w.ownsRow base e size v n xs):∀k,v.ownBlock=some k->base<=k:=by
 intro k hk
 exact(h.lt k hk).1
theorem own_mono {w:World} {base base':Nat} {e:TypeId} {size n:Nat} {v:Value} {xs:List Value} (h:w.ownsRow base e size v n xs) (hb:base'<=base):w.ownsRow base' e size v n xs:=by
 obtain⟨h1,h2⟩:=h
 refine⟨h1,?_⟩
 rcases h2 with h2|⟨g,cap,cur,rfl,hg,r⟩
 ·exact Or.inl h2
 ·exact Or.inr ⟨g,cap,cur,rfl,Nat.le_trans hb hg,r⟩
theorem own_slice {w:World} {base:Nat} {e:TypeId} {size n:Nat} {v:Value} {xs:List Value} (h:w.ownsRow base e size v n xs):∃A c,v=.slice A n c/\∀ad,A=some ad->base<=ad.block:=by
 rcases h.2 with ⟨rfl,rfl⟩|⟨g,cap,cur,rfl,hb,_⟩
 ·exact⟨none,0,rfl,by simp⟩
 ·exact⟨_,cap,rfl,by rintro ad e;injection e with e;subst e;exact hb⟩
theorem own_form {w:World} {base:Nat} {e:TypeId} {size n:Nat} {v:Value} {xs:List Value} (h:w.ownsRow base e size v n xs) (hn:0<n):∃g c,v=.slice (some ⟨g,0,none⟩) n c/\base<=g/\g<w.heap.size:=by
 rcases h.2 with ⟨rfl,h0⟩|⟨g,cap,cur,rfl,hb,hh,_⟩
 ·omega
 ·exact⟨g,cap,rfl,hb,(Array.getElem?_eq_some_iff.1 hh).1⟩
theorem one_cell_int (l:List Int):∀u∈l.map (Value.int .i64),u.oneCell'=true:=by
 intro u hu
 simp at hu
 obtain⟨x,_,rfl⟩:=hu
 rfl
theorem cell_new1 (w:World) (v:Value) (t:TypeId):∀j u,[v][j]? =some u->(w.alloc (.cells #[v] t)).cell? ((⟨w.heap.size,0,none⟩:Addr).add j)=some u:=by
 intro j u hj
 match j,hj with
 |0,hj=>
  simp at hj
  subst hj
  exact(Blk.new w t #[v]).cell_ 0 rfl
theorem ret_bool {a b:Bool} (h:a=b):Ending.returned (.bool a)=.returned (.bool b):=by rw[h]
end Go.Proofs.YtcidjimefnhacaaGreatDoor
namespace Go.Proofs.YtcidjimefnhacaaGreatDoor.Z
open Go.RowKit
structure Cl where
 s:Int
 p:Int
 b:Int
 deriving DecidableEq
def oneP (size pages batch:Int):Prop:=8<=size/\size<=512/\size%8=0/\1<=pages/\pages<=4/\size<=pages*256/\1<=batch/\batch<=32
instance (size pages batch:Int):Decidable (oneP size pages batch):=by unfold oneP;infer_instance
namespace Cl
def z:Cl:=⟨0,0,0⟩
def ok (c:Cl):Prop:=oneP c.s c.p c.b
instance (c:Cl):Decidable c.ok:=by unfold ok;infer_instance
def n (c:Cl):Int:=c.p*256/c.s
def t (c:Cl):Int:=c.p*256-c.n*c.s
def cells (c:Cl):List Value:=[.int .i64 c.s,.int .i64 c.p,.int .i64 c.b]
def val (c:Cl):Value:=.agg #[.int .i64 c.s,.int .i64 c.p,.int .i64 c.b]
end Cl
abbrev cAt (l:List Cl) (j:Nat):Cl:=l.getD j Cl.z
def validTo (l:List Cl) (k:Nat):Prop:=∀i,i<k->(cAt l i).ok/\(0<i->(cAt l (i-1)).s<(cAt l i).s)
instance (l:List Cl) (k:Nat):Decidable (validTo l k):=by unfold validTo;infer_instance
def isTable (l:List Cl):Prop:=1<=l.length/\l.length<=40/\validTo l l.length
instance (l:List Cl):Decidable (isTable l):=by unfold isTable;infer_instance
theorem validTo_succ {l:List Cl} {k:Nat} (h:validTo l k) (h1:(cAt l k).ok) (h2:0<k->(cAt l (k-1)).s<(cAt l k).s):validTo l (k+1):=by
 intro i hi
 rcases Nat.lt_or_ge i k with h3|h3
 ·exact h i h3
 ·have e:i=k:=by omega
  subst e
  exact⟨h1,h2⟩
def pw (n:Int):Int:=if n<1 then 0 else if n<2 then 1 else if n<4 then 2 else if n<8 then 4 else if n<16 then 8 else if n<32 then 16 else if n<64 then 32 else if n<128 then 64 else if n<256 then 128 else 256
def isPow (a:Int):Prop:=a=1\/a=2\/a=4\/a=8\/a=16\/a=32\/a=64\/a=128\/a=256
instance (a:Int):Decidable (isPow a):=by unfold isPow;infer_instance
theorem isPow_iff {a:Int}:isPow a↔1<=a/\a<=256/\pw a=a:=by
 unfold isPow pw
 constructor
 ·rintro (rfl|rfl|rfl|rfl|rfl|rfl|rfl|rfl|rfl)<;>decide
 ·rintro ⟨h1,h2,h3⟩
  omega
def fitsC (size align:Int) (c:Cl):Bool:=decide (size<=c.s)&&decide (c.s%align=0)
def clsOf (l:List Cl) (size align:Int):Int×Int:=
 if ¬isTable l then(0,2) else if ¬(1<=size/\isPow align) then(0,1) else if l.findIdx (fitsC size align)<l.length then((l.findIdx (fitsC size align):Nat),0) else(0,4)
theorem findIdx_here {l:List Cl} {p:Cl->Bool} {k:Nat} (hk:k<l.length) (h:k<=l.findIdx p) (hp:p (cAt l k)=true):l.findIdx p=k:=by
 have e:cAt l k=l[k]:=by simp[cAt,List.getD_eq_getElem?_getD,List.getElem?_eq_getElem hk]
 rw[e] at hp
 rcases Nat.lt_or_ge k (l.findIdx p) with h1|h1
 ·exact absurd hp (by simpa using List.not_of_lt_findIdx h1)
 ·omega
theorem findIdx_next {l:List Cl} {p:Cl->Bool} {k:Nat} (hk:k<l.length) (h:k<=l.findIdx p) (hp:p (cAt l k)=false):k+1<=l.findIdx p:=by
 have e:cAt l k=l[k]:=by simp[cAt,List.getD_eq_getElem?_getD,List.getElem?_eq_getElem hk]
 rw[e] at hp
 rcases Nat.lt_or_ge k (l.findIdx p) with h1|h1
 ·omega
 ·have e2:l.findIdx p=k:=by omega
  have h3:=List.findIdx_getElem (p:=p) (xs:=l) (w:=by rw[e2];exact hk)
  simp only[e2] at h3
  rw[h3] at hp
  cases hp
theorem findIdx_end {l:List Cl} {p:Cl->Bool} {k:Nat} (hk:k=l.length) (h:k<=l.findIdx p):¬l.findIdx p<l.length:=by omega
def ReadsC (w:World) (A:Option Addr) (n:Nat) (l:List Cl):Prop:=l.length=n/\(∀j,j<n->I64 (cAt l j).s/\I64 (cAt l j).p/\I64 (cAt l j).b)/\
 (0<n->∃ad,A=some ad/\∀j,j<n->w.cell? (ad.add (j*3))=some (.int .i64 (cAt l j).s)/\w.cell? ⟨(ad.add (j*3)).block,(ad.add (j*3)).off+1,none⟩=some (.int .i64 (cAt l j).p)/\w.cell? ⟨(ad.add (j*3)).block,(ad.add (j*3)).off+2,none⟩=some (.int .i64 (cAt l j).b))
theorem ReadsC.only {w w':World} {A:Option Addr} {n:Nat} {l:List Cl} {L:List Nat} (h:ReadsC w A n l) (ho:Only L w w') (hn:∀ad,A=some ad->ad.block∉L):ReadsC w' A n l:=by
 obtain⟨h1,h2,h3⟩:=h
 refine⟨h1,h2,fun h0=>?_⟩
 obtain⟨ad,rfl,hc⟩:=h3 h0
 refine⟨ad,rfl,fun j hj=>?_⟩
 obtain⟨c1,c2,c3⟩:=hc j hj
 have hb1:=World.block_lt_of_cell? w _ c1
 have hb:∀j,(ad.add j).block=ad.block:=fun j=>by unfold Addr.add;split<;>rfl
 have hnn:(ad.add (j*3)).block∉L:=by rw[hb];exact hn ad rfl
 exact⟨(ho.cell hb1 hnn).trans c1,(ho.cell (p:=⟨(ad.add (j*3)).block,(ad.add (j*3)).off+1,none⟩) hb1 hnn).trans c2,(ho.cell (p:=⟨(ad.add (j*3)).block,(ad.add (j*3)).off+2,none⟩) hb1 hnn).trans c3⟩
theorem ReadsC.still {w w':World} {A:Option Addr} {n:Nat} {l:List Cl} (h:ReadsC w A n l) (ho:Only [] w w'):ReadsC w' A n l:=h.only ho (by simp)
theorem ReadsC.at_ {w:World} {A:Option Addr} {n:Nat} {l:List Cl} (h:ReadsC w A n l) {k:Nat} (hk:k<n):∃ad,A=some ad/\w.cell? (ad.add (k*3))=some (.int .i64 (cAt l k).s)/\w.cell? ⟨(ad.add (k*3)).block,(ad.add (k*3)).off+1,none⟩=some (.int .i64 (cAt l k).p)/\w.cell? ⟨(ad.add (k*3)).block,(ad.add (k*3)).off+2,none⟩=some (.int .i64 (cAt l k).b):=by
 obtain⟨ad,rfl,hc⟩:=h.2.2 (by omega)
 exact⟨ad,rfl,hc k hk⟩
end Go.Proofs.YtcidjimefnhacaaGreatDoor.Z
namespace Go.Proofs.YtcidjimefnhacaaGreatDoor.Z
open Go.RowKit
set_option maxHeartbeats 800000 in
theorem one_any_p (w:World) (size pages batch:Int):Grew Tryz.prog 60 #[.agg #[.int .i64 size,.int .i64 pages,.int .i64 batch]] w (.bool (decide (oneP size pages batch))):=by
 go_enter Tryz.func60,Tryz.ntmps60
 go_wp2
 all_goals
  go_ret
  refine⟨?_,(Only.refl [] w).alloc _⟩
  show Ending.returned (Value.bool _)=_
  refine ret_bool ?_
  first
   |(symm;rw[decide_eq_false_iff_not];unfold oneP;omega)
   |(rw[decide_eq_decide];unfold oneP;omega)
theorem Cl.dec (c:Cl):decide c.ok=decide (oneP c.s c.p c.b):=decide_eq_decide.2 Iff.rfl
theorem one_any (w:World) (c:Cl):Grew Tryz.prog 60 #[c.val] w (.bool (decide c.ok)):=by
 rw[Cl.dec]
 exact one_any_p w c.s c.p c.b
def Cl.small (c:Cl):Prop:=8<=c.s/\c.s<=512/\1<=c.p/\c.p<=4
theorem Cl.ok.small {c:Cl} (h:c.ok):c.small:=by obtain⟨h1,h2,h3,h4,h5,h6,h7,h8⟩:=h;exact⟨h1,h2,h4,h5⟩
set_option maxHeartbeats 800000 in
theorem objects_any (w:World) (c:Cl) (h:c.small):Grew Tryz.prog 44 #[c.val] w (.int .i64 c.n):=by
 obtain⟨size,pages,batch⟩:=c
 obtain⟨h1,h2,h4,h5⟩:=h
 unfold Cl.val Cl.n
 dsimp only at *
 have hs0:(size==0)=false:=beq_eq_false_iff_ne.2 (by omega)
 go_enter Tryz.func44,Tryz.ntmps44
 go_wp2
 go_ret
 exact⟨rfl,(Only.refl [] w).alloc _⟩
set_option maxHeartbeats 800000 in
theorem Objects_any (w:World) (c:Cl):Grew Tryz.prog 75 #[c.val] w (.tuple #[.int .i64 (if c.ok then c.n else 0),.int .i64 (if c.ok then 0 else 1)]):=by
 have b:=Blk.new w 101 #[.int .i64 c.s,.int .i64 c.p,.int .i64 c.b]
 have C:=one_any (w.alloc (.cells #[.int .i64 c.s,.int .i64 c.p,.int .i64 c.b] 101)) c
 have D:=fun W (h:c.ok)=>objects_any W c h.small
 obtain⟨size,pages,batch⟩:=c
 unfold Cl.val at *
 by_cases hone:Cl.ok ⟨size,pages,batch⟩
 ·rw[if_pos hone,if_pos hone]
  rw[decide_eq_true hone] at C
  have CH:=Lib.hid C
  have DH:=Lib.hid (fun W=>D W hone)
  clear C D hone
  generalize Cl.n ⟨size,pages,batch⟩=m at *
  dsimp only at *
  go_enter Tryz.func75,Tryz.ntmps75
  go_wp2_with (first|(go_at_call 60;refine Grew.use CH.out (fun w1 ho1=>?_);have b1:=b.only ho1 (by simp);have b10:=b1.cell_ 0 rfl;have b11:=b1.cell_ 1 rfl;have b12:=b1.cell_ 2 rfl)|(go_at_call 44;refine Grew.use (DH.out w1) (fun w2 ho2=>?_)))
  go_ret2
  exact⟨rfl,(((Only.refl [] w).alloc _).trans ho1).trans ho2⟩
 ·rw[if_neg hone,if_neg hone]
  rw[decide_eq_false hone] at C
  have CH:=Lib.hid C
  clear C D hone b
  dsimp only at *
  go_enter Tryz.func75,Tryz.ntmps75
  go_wp2_with (first|(go_at_call 60;refine Grew.use CH.out (fun w1 ho1=>?_)))
  go_ret2
  exact⟨rfl,((Only.refl [] w).alloc _).trans ho1⟩
end Go.Proofs.YtcidjimefnhacaaGreatDoor.Z
namespace Go.Proofs.YtcidjimefnhacaaGreatDoor.Z
open Go.RowKit
def Pq (p q:Int):Prop:=(p=0/\q=1)\/(p=1/\q=2)\/(p=2/\q=4)\/(p=4/\q=8)\/(p=8/\q=16)\/(p=16/\q=32)\/(p=32/\q=64)\/(p=64/\q=128)\/(p=128/\q=256)\/(p=256/\q=512)
theorem Pq.next {p q:Int} (h:Pq p q) (hq:q<=256):Pq q (q*2):=by
 unfold Pq at h
 rcases h with ⟨_,rfl⟩|⟨_,rfl⟩|⟨_,rfl⟩|⟨_,rfl⟩|⟨_,rfl⟩|⟨_,rfl⟩|⟨_,rfl⟩|⟨_,rfl⟩|⟨_,rfl⟩|⟨_,rfl⟩<;>unfold Pq<;>first|omega|decide
theorem Pq.pw {p q n:Int} (h:Pq p q) (h1:p<=n) (h2:n<q) (h3:n<=256):pw n=p:=by
 unfold Pq at h
 rcases h with ⟨rfl,rfl⟩|⟨rfl,rfl⟩|⟨rfl,rfl⟩|⟨rfl,rfl⟩|⟨rfl,rfl⟩|⟨rfl,rfl⟩|⟨rfl,rfl⟩|⟨rfl,rfl⟩|⟨rfl,rfl⟩|⟨rfl,rfl⟩<;>unfold Go.Proofs.YtcidjimefnhacaaGreatDoor.Z.pw<;>omega
set_option maxHeartbeats 800000 in
theorem power_any (w:World) (n:Int) (h0:0<=n) (h1:n<=256):Still Tryz.prog 59 #[.int .i64 n] w (.int .i64 (pw n)):=by
 go_enter Tryz.func59,Tryz.ntmps59
 go_wp2_with fail
 go_loop [3,4] (fun u t=>∃p q:Int,u=.int .i64 p/\t=.int .i64 q/\p<=n/\1<=q/\q<=512/\Hid (Pq p q)) (fun _ t=>1024-(intOf t).toNat)
 case atStart=>exact⟨0,1,rfl,rfl,h0,by omega,by omega,Or.inl ⟨rfl,rfl⟩⟩
 case round=>
  obtain⟨p,q,rfl,rfl,hp,hq,hq2,HD⟩:=hrel
  by_cases hlt:q<=n
  ·have d1:decide (q<=n)=true:=decide_eq_true hlt
   have HN:=Lib.hid (Pq.next HD.out (by omega))
   go_wp2
   go_round
   case rel=>exact⟨q,q*2,rfl,rfl,hlt,by omega,by omega,HN⟩
   case measure=>simp[intOf];omega
  ·have d1:decide (q<=n)=false:=decide_eq_false hlt
   have HE:=Lib.hid (Pq.pw HD.out hp (by omega) h1)
   go_wp2
   go_ret
   exact⟨by rw[HE.out];rfl,rfl⟩
end Go.Proofs.YtcidjimefnhacaaGreatDoor.Z
namespace Go.Proofs.YtcidjimefnhacaaGreatDoor
open Go.RowKit
structure After (w:World) where
 w':World
 ok:Only [] w w'
instance (w:World):Nonempty (After w):=⟨⟨w,Only.refl [] w⟩⟩
theorem wp_region_grew {P:Program} {id:Nat} {Q:Exit->Act->World->Prop} {a:Act} {w:World} {l:List Oper} (hm:P.follows .mixedOrders=true) (hB:Region.lexB .any l.toArray=true)
 (h:wpQuiet P l.toArray (fun w'=>∃u:After w,w'=u.w') (fun a'=>∀w',(∃u:After w,w'=u.w')->Q .normal a' w') l a):(Code.region id l.toArray true).wp P Q a w:=
 wp_region_quiet (C:=fun w'=>∃u:After w,w'=u.w') hm hB ⟨⟨w.drew,(Only.refl [] w).drew⟩,rfl⟩ (by simpa using h)
theorem Grew.g {P:Program} {f:FuncId} {args:Array Value} {w:World} {v:Value} {u:After w} (h:Grew P f args u.w' v):Calls P f args u.w' fun e w''=>e=.returned v/\∃u':After w,w''=u'.w':=
 h.mono (by rintro e w' ⟨rfl,ho⟩;exact⟨rfl,⟨w',u.ok.trans ho⟩,rfl⟩)
theorem Quiet.grew {P:Program} {f:FuncId} {args:Array Value} {w:World} {v:Value} (h:Quiet P f args w v):Grew P f args w v:=h.mono (by rintro e w' ⟨rfl,hd⟩;exact⟨rfl,Only.of_dr hd⟩)
theorem Still.grew {P:Program} {f:FuncId} {args:Array Value} {w:World} {v:Value} (h:Still P f args w v):Grew P f args w v:=h.quiet.grew
theorem cell_after {w:World} {p:Addr} {v:Value} (h:w.cell? p=some v):∀u:After w,u.w'.cell? p=some v:=fun u=>(u.ok.cell (World.block_lt_of_cell? w p h) (by simp)).trans h
end Go.Proofs.YtcidjimefnhacaaGreatDoor
namespace Go.Proofs.YtcidjimefnhacaaGreatDoor.Z
open Go.RowKit
theorem not_table_at {l:List Cl} {k:Nat} (hk:k<l.length) (h:¬((cAt l k).ok/\(0<k->(cAt l (k-1)).s<(cAt l k).s))):¬isTable l:=fun ht=>h (ht.2.2 k hk)
set_option maxHeartbeats 4000000 in
theorem Valid_any (w:World) (A:Option Addr) (n c:Nat) (l:List Cl) (hr:ReadsC w A n l) (hn:n<=9223372036854775807):Grew Tryz.prog 45 #[.slice A n c] w (.bool (decide (isTable l))):=by
 have hl:=hr.1
 by_cases hs:1<=n/\n<=40
 ·obtain⟨hs1,hs2⟩:=hs
  have HR:=Lib.hid hr
  have HL:=Lib.hid hl
  clear hr hl
  go_enter Tryz.func45,Tryz.ntmps45
  go_wp2_with fail
  go_loopw[15] (fun t wr=>∃k:Nat,k<=n/\t=.int .i64 k/\Only [] w wr/\Hid (validTo l k)) (fun t _=>n-(intOf t).toNat)
  case atStart=>exact⟨0,Nat.zero_le _,rfl,Only.refl _ _,fun i hi=>absurd hi (by omega)⟩
  case round=>
   obtain⟨k,hk,rfl,ho,HV⟩:=hrel
   by_cases hlt:k<n
   ·obtain⟨ad,rfl,c1,c2,c3⟩:=(HR.out.still ho).at_ hlt
    have HNT:=Lib.hid (not_table_at (l:=l) (k:=k) (by rw[HL.out];exact hlt))
    have HVS:=Lib.hid (validTo_succ (l:=l) (k:=k) HV.out)
    have C:=fun W=>one_any W (cAt l k)
    unfold Cl.val at C
    have HP:0<k->(wr.cell? (ad.add ((k-1)*3))=some (.int .i64 (cAt l (k-1)).s)):=fun h0=>by
     obtain⟨_,e,p1,_,_⟩:=(HR.out.still ho).at_ (k:=k-1) (by omega)
     injection e with e
     subst e
     exact p1
    generalize cAt l k=x at c1 c2 c3 C HNT HVS
    obtain⟨xs,xp,xb⟩:=x
    dsimp only at c1 c2 c3 C HNT HVS
    go_wp2_with fail
    have b:=Blk.new wr 101 #[.int .i64 xs,.int .i64 xp,.int .i64 xb]
    have ho1:=ho.alloc (.cells #[.int .i64 xs,.int .i64 xp,.int .i64 xb] 101)
    have HP1:0<k->((wr.alloc (.cells #[.int .i64 xs,.int .i64 xp,.int .i64 xb] 101)).cell? (ad.add ((k-1)*3))=some (.int .i64 (cAt l (k-1)).s)):=fun h0=>by
     have h:=HP h0
     exact((Only.refl [] wr).alloc _).cell (World.block_lt_of_cell? _ _ h) (by simp) |>.trans h
    clear c1 c2 c3 HP
    generalize wr.alloc (.cells #[.int .i64 xs,.int .i64 xp,.int .i64 xb] 101)=w1 at *
    have g0:=cell_after (b.cell_ 0 rfl)
    have g1:=cell_after (b.cell_ 1 rfl)
    have g2:=cell_after (b.cell_ 2 rfl)
    by_cases hone:Cl.ok ⟨xs,xp,xb⟩
    ·rw[decide_eq_true hone] at C
     have CH:=Lib.hid C
     have HON:=Lib.hid hone
     clear C hone
     rcases Nat.eq_zero_or_pos k with e0|h0
     ·have d0:decide ((0:Int)<(k:Int))=false:=decide_eq_false (by omega)
      have HN:=Lib.hid (HVS.out HON.out (fun h=>absurd h (by omega)))
      clear HVS HNT HP1
      refine wp_region_grew (by kernel_rfl) (by kernel_rfl) ?_
      repeat (go_big_quiet_step (first|(go_at_call 60;exact Grew.g (CH.out _))))
      refine wpQuiet_nil ?_
      rintro _ ⟨⟨w2,ho2⟩,rfl⟩
      go_wp2
      go_roundw
      case rel=>exact⟨k+1,by omega,by go_num,ho1.trans ho2,HN⟩
      case measure=>simp[intOf];omega
     ·obtain⟨k',hk'⟩:∃k',k=k'+1:=⟨k-1,by omega⟩
      have hkk:k-1=k':=by omega
      have d0:decide ((0:Int)<(k:Int))=true:=decide_eq_true (by omega)
      have g3:=cell_after (HP1 h0)
      rw[hkk] at g3 HNT HVS
      generalize (cAt l k').s=ys at *
      have e1:IntKind.i64.wrap ((k:Int)-1)=k':=by rw[IntWalk.i64_in _ (by omega)];omega
      have e2:((k:Int)-1)=k':=by omega
      by_cases hlt2:ys<xs
      ·have HN:=Lib.hid (HVS.out HON.out (fun _=>hlt2))
       have d1:decide (xs<=ys)=false:=decide_eq_false (by omega)
       clear HVS HNT HP1
       refine wp_region_grew (by kernel_rfl) (by kernel_rfl) ?_
       repeat (go_big_quiet_step (first|(go_at_call 60;exact Grew.g (CH.out _))))
       refine wpQuiet_nil ?_
       rintro _ ⟨⟨w2,ho2⟩,rfl⟩
       go_wp2
       go_roundw
       case rel=>exact⟨k+1,by omega,by go_num,ho1.trans ho2,HN⟩
       case measure=>simp[intOf];omega
      ·have HN:=Lib.hid (HNT.out (fun h=>hlt2 (h.2 (by omega))))
       have d1:decide (xs<=ys)=true:=decide_eq_true (by omega)
       clear HVS HNT HP1
       refine wp_region_grew (by kernel_rfl) (by kernel_rfl) ?_
       repeat (go_big_quiet_step (first|(go_at_call 60;exact Grew.g (CH.out _))))
       refine wpQuiet_nil ?_
       rintro _ ⟨⟨w2,ho2⟩,rfl⟩
       go_wp2
       go_ret
       exact⟨by rw[decide_eq_false HN.out];rfl,ho1.trans ho2⟩
    ·rw[decide_eq_false hone] at C
     have HN:=Lib.hid (HNT.out (fun h=>hone h.1))
     have CH:=Lib.hid C
     clear C hone HVS HNT HP1
     refine wp_region_grew (by kernel_rfl) (by kernel_rfl) ?_
     repeat (go_big_quiet_step (first|(go_at_call 60;exact Grew.g (CH.out _))))
     refine wpQuiet_nil ?_
     rintro _ ⟨⟨w2,ho2⟩,rfl⟩
     go_wp2
     go_ret
     exact⟨by rw[decide_eq_false HN.out];rfl,ho1.trans ho2⟩
   ·have e:k=n:=by omega
    have HT:Hid (isTable l):=⟨by rw[HL.out];exact hs1,by rw[HL.out];exact hs2,by rw[HL.out,<-e];exact HV.out⟩
    subst e
    go_wp2_with fail
    go_ret
    exact⟨by rw[decide_eq_true HT.out];rfl,ho⟩
 ·rw[decide_eq_false (show ¬isTable l from fun h=>hs ⟨by rw[<-hl];exact h.1,by rw[<-hl];exact h.2.1⟩)]
  clear hr hl
  by_cases h1:n<1
  ·have e:n=0:=by omega
   subst e
   go_enter Tryz.func45,Tryz.ntmps45
   go_wp2_with fail
   go_ret
   exact⟨rfl,Only.refl _ _⟩
  ·have h2:40<n:=by omega
   clear hs
   go_enter Tryz.func45,Tryz.ntmps45
   go_wp2_with fail
   go_ret
   exact⟨rfl,Only.refl _ _⟩
end Go.Proofs.YtcidjimefnhacaaGreatDoor.Z
namespace Go.Proofs.YtcidjimefnhacaaGreatDoor.Z
open Go.RowKit
end Go.Proofs.YtcidjimefnhacaaGreatDoor.Z
