/- TopSchedules, a part of the proof: Po, Pp, Qa, Qb. -/
import Derived.Test.YtcidjimefnhacaaGreatDoorM33
set_option linter.unusedVariables false
set_option linter.unusedSimpArgs false
namespace Go.Proofs.YtcidjimefnhacaaGreatDoor
open Go.RowKit
theorem Inv.step {P:Hp} (hT:Z.isTable P.T) (hna:1<=P.na) {S:HS} {who:Who} (h:Inv P S who) (hG:∀a k,a<P.na->k<P.T.length->GoodL (P.cl k) (S.M a k)) {t:Nat} (ht:t<P.nt) {p p':Ph} {S':HS} {r:Int×Int} (hp:S.ph t=p) (hs:PStep P S t p S' p' r):∃who',Inv P (S'.phs t p') who':=by
 cases hs with
 |takeHit h1 h2=>exact h.takeHit hT ht hp h1
 |takeMiss h1 h2 h3=>exact⟨who,h.takeMiss ht hp h1 h2 h3⟩
 |moveHit h1=>exact h.moveHit hT hna ht hp h1
 |moveMiss=>exact⟨who,h.moveMiss ht hp⟩
 |centHit h1=>
  have:=h.phs t ht
  rw[hp] at this
  exact h.centHit hna ht hp (hG _ _ (Nat.mod_lt _ hna) this.1) h1
 |centMiss h1=>exact⟨who,h.centMiss ht hp h1⟩
 |growNo h1 _=>exact(h.growStep hna ht hp h1).1
 |growYes h1=>exact(h.growStep hna ht hp h1).2
 |fill h1 h2 h3 h4=>exact h.fill hT ht h1 h2 h3
 |largeNo h1=>exact h.largeNo hna ht hp h1
 |largeYes h1 h2=>exact(h.largeYes hT hna ht hp h1 h2).2
 |find h1 h2=>
  rcases h2 with ⟨c,rfl,rfl⟩|⟨c,rfl,v,v',rfl⟩
  ·exact h.findL ht hp h1 c
  ·exact h.findS hT ht hp h1 c
 |put h1 h2 h3=>exact h.put hT ht hp h1 h3
 |back h1 h2=>
  rcases h2 with ⟨b',rfl⟩|⟨pl,B',L',e1,e2,rfl⟩
  ·exact h.backX hT hna ht h1
  ·exact h.backC hG ht h1 e1 e2
 |giveNo h1=>exact⟨who,h.giveNo ht hp⟩
 |giveYes h1 h2 h3=>exact h.giveYes ht hp h1 h2 h3
 |drain h1 h2 h3=>
  have:=h.phs t ht
  rw[hp] at this
  exact h.cacHan hT ht this h1 h3
theorem InvC.inr_ {P:Hp} {S:HS} {who:Who} (h:InvC P S.sp S.M S.B S.L S.R who) {a:Int} (ha:who a≠ .spc):(0<=a/\a<65536)/\S.sp.st (a/256)≠0/\∃ar,ar<P.na/\Ownd S ar (a/256):=by
 have h1:=Decidable.not_not.1 (fun c=>ha ((h.spc a).2 c))
 obtain⟨ar,h2,h3⟩:=h.own a ha
 exact⟨⟨h1.1,h1.2.1⟩,h1.2.2,ar,h2,by omega,by omega,h3⟩
theorem Keeps.inr_ {P:Hp} {S:HS} {who:Who} (hT:Z.isTable P.T) (h:Inv P S who) {hd:Hd} {k a:Int} (ha:0<tkH P S hd k a):(0<=a/\a<65536)/\∃ar,ar<P.na/\Ownd S ar (a/256):=by
 obtain⟨_,p1,p2,p3⟩:=h.tk hd k a ha
 have s1:=szK_pos hT p1 p2
 obtain⟨q1,_,q2⟩:=h.c.inr_ (a:=a) (by rw[p3 a (Int.le_refl _) (by omega)];simp)
 exact⟨q1,q2⟩
theorem InvC.free_ {P:Hp} {S:HS} {who:Who} (h:InvC P S.sp S.M S.B S.L S.R who) {a:Nat} (ha:a<P.na) (x:Int) (hx:S.sp.st x=0):¬bF (S.B a) x:=fun hb=>by
 have h1:=h.bud a x ha hb (x*256) (Int.le_refl _) (by omega)
 obtain⟨_,h2,_⟩:=h.inr_ (a:=x*256) (by rw[h1];simp)
 rw[Int.mul_ediv_cancel _ (by decide)] at h2
 exact h2 hx
theorem Inv.lb {P:Hp} {S:HS} {who:Who} (h:Inv P S who) {a:Nat} (ha:a<P.na):∀S1,Grw S a S1->∀o:Nat,o<256->bF (S1.B a) o->∃a,a<P.na/\S1.L a o≠0:=by
 intro S1 hg o _ hb
 obtain⟨who1,h1⟩:=h.grw ha hg
 have h2:=h1.c.bud a o ha hb ((o:Int)*256) (Int.le_refl _) (by omega)
 obtain⟨_,_,ar,h3,_,_,h4⟩:=h1.c.inr_ (a:=(o:Int)*256) (by rw[h2];simp)
 rw[Int.mul_ediv_cancel _ (by decide),Int.toNat_natCast] at h4
 exact⟨ar,h3,h4⟩
theorem HSys.good {P:Hp} {S:HS} {w:World} {FP:List Nat} (h:HSys P S w FP) (a k:Nat) (ha:a<P.na) (hk:k<P.T.length):GoodL (P.cl k) (S.M a k):=by
 obtain⟨f,hf,_⟩:=h.turn (.cen a k)
 exact(hf.1 ⟨ha,hk⟩).goodL
theorem HSys.hok {P:Hp} {S:HS} {w:World} {FP:List Nat} (h:HSys P S w FP) {t:Nat} (ht:t<P.nt):∀b∈S.H t,b.ok P.T.length:=by
 obtain⟨f,hf,_⟩:=h.turn (.han t)
 exact(hf.1 ht).ok
theorem Inv.live {P:Hp} (hT:Z.isTable P.T) {S:HS} {who:Who} (h:Inv P S who) {a:Int} {b:Bk} (hb:S.lv a=some b):0<=a/\a<65536:=by
 rcases Int.lt_or_le b.cls 0 with hc|hc
 ·obtain⟨_,_,_,A,s,p,hA,e1,e2,_,e3⟩:=h.l.lrg a b hb hc
  have hp1:=(h.c.run A s p hA e2).1
  exact(h.c.inr_ (a:=a) (by rw[e3 a (Int.le_refl _) (by omega)];simp)).1
 ·have hl:0<tkH P S .liv b.cls a:=by
   show 0<ltok S.lv b.cls a
   unfold ltok
   rw[hb]
   simp[hc]
  exact(Keeps.inr_ hT h hl).1
theorem Turns.hokL {P:Hp} {S:HS} {w w':World} {FP:List Nat} {t:Nat} (ht:t<P.nt) {v:Value} {L:List HB} (h:Turns (HSys P (S.hnd t v L)) w FP w'):∀b∈L,b.ok P.T.length:=by
 obtain⟨_,f',h1,_⟩:=h
 have:=h1.hok ht
 rw[show(S.hnd t v L).H t=L from upd_at] at this
 exact this
theorem Ph.if_val (L:List HB):(if L=[] then Ph.none else Ph.back).val=if L=[] then Ph.none.val else Ph.back.val:=by split<;>rfl
def StepP (P:Hp) (S:HS) (t:Nat) (p:Ph) (w:World) (FP:List Nat) (e:Ending) (w':World):Prop:=∃S' p' x er,PStep P S t p S' p' (x,er)/\e=.returned (.tuple #[p'.val,.agg #[.int .i64 x,.int .i64 er]])/\Turns (HSys P S') w FP w'
theorem hstep_at {P:Hp} {S:HS} {w:World} {FP:List Nat} {who:Who} (h:HSys P S w FP) (hI:Inv P S who) {t:Nat} (ht:t<P.nt) {p:Ph} (hp:S.ph t=p) (hn:p≠ .none):Calls Tryz.prog 77 #[.pointer (some ⟨P.h,0,none⟩),.int .i64 t,p.val] w (StepP P S t p w FP):=by
 have hT:=h.isT
 have hph:=hI.phs t ht
 rw[hp] at hph
 have hna:1<=P.na:=h.nums.1
 have ha:t%P.na<P.na:=Nat.mod_lt _ hna
 cases p with
 |none=>exact absurd rfl hn
 |take k=>
  refine(hsTake_at h ht hph.1 (fun a h0=>Keeps.inr_ hT hI (hd:=.cac t) (k:=k) (by rw[tk_cac ht];exact h0))).mono ?_
  rintro e w' (⟨C',a,ar,h1,rfl,h2,h3⟩|⟨C',n,h1,h2,h3,rfl,h4⟩)
  ·exact⟨_,.none,a,0,.takeHit h1 h2,rfl,h3⟩
  ·exact⟨_,.transfer k n,0,0,.takeMiss h1 h2 h3,rfl,h4⟩
 |transfer k n=>
  refine(hsTransfer_at h ht hph.1 (hI.trb _ _ ha hph.1) (by rw[hph.2.2.2];decide)).mono ?_
  rintro e w' (⟨b,v,v',h1,rfl,h2⟩|⟨rfl,h2⟩)
  ·exact⟨_,.fill,0,0,.moveHit h1,rfl,h2⟩
  ·exact⟨_,.central k n,0,0,.moveMiss,rfl,h2⟩
 |central k n=>
  refine(hsCentral_at h ht hph.1 (by have:=hph.2.1;have:=hph.2.2.1;omega) (by rw[hph.2.2.2];decide)).mono ?_
  rintro e w' (⟨h1,v,v',rfl,h2⟩|⟨h1,rfl,h2⟩)
  ·exact⟨_,.fill,0,0,.centHit h1,rfl,h2⟩
  ·exact⟨_,.grow k n,0,0,.centMiss h1,rfl,h2⟩
 |grow k n=>
  refine(hsGrow_at h ht hph.1 hI.c.n (fun x hx=>hI.c.free_ ha x hx) (fun j=>hI.c.hugU _ j ha)).mono ?_
  rintro e w' ⟨S',er,h1,h2,h3⟩
  rcases h3 with ⟨h3,rfl⟩|⟨rfl,rfl⟩
  ·exact⟨S',.none,0,er,.growNo h1 h3,rfl,h2⟩
  ·exact⟨S',.central k n,0,0,.growYes h1,rfl,h2⟩
 |fill=>
  obtain⟨b,hb⟩:=hph
  have hbk:=hI.hok t ht b (by rw[hb];simp)
  obtain⟨x,xs,hx⟩:∃x xs,b.o=x::xs:=by
   cases hbo:b.o with
   |nil=>have:=hbk.l0;rw[hbo] at this;simp at this
   |cons x xs=>exact⟨x,xs,rfl⟩
  refine(hsFill_at h ht hb hx (Keeps.inr_ hT hI (hd:=.han t) (k:=b.k) (a:=x) (by rw[tk_han ht,hb];simp[htok,hx]))).mono ?_
  rintro e w' ⟨C',ar,h1,h2,h3,rfl⟩
  exact⟨_,.none,x,0,.fill hb hx h1 h2,rfl,h3⟩
 |large n=>
  refine(hsLarge_at h ht ⟨hph.1,hph.2.1⟩ hI.c.n (fun x hx=>hI.c.free_ ha x hx) (fun j=>hI.c.hugU _ j ha) (hI.lb ha)).mono ?_
  rintro e w' (⟨S',h1,rfl,h2⟩|⟨S',o,ar,h1,h2,rfl,h3⟩)
  ·exact⟨S',.none,0,6,.largeNo h1,rfl,h2⟩
  ·exact⟨_,.none,_,0,.largeYes h1 h2,rfl,h3⟩
 |find a=>
  obtain⟨hH,hl⟩:=hph
  obtain⟨b,hb⟩:=Option.ne_none_iff_exists'.1 hl
  refine(hsFind_at h ht (hI.live hT hb) hb (fun hc=>(hI.l.sml a b hb hc).1) (by rw[hH];decide)).mono ?_
  rintro e w' ⟨p,S',h1,h2,rfl⟩
  exact⟨S',p,0,0,.find hb h1,rfl,h2⟩
 |put k a=>
  obtain⟨hk,v0,hH⟩:=hph
  refine(hsPut_at h ht hk hH).mono ?_
  rintro e w' ⟨C',v,L,h1,h2,h3,rfl⟩
  exact⟨_,_,0,0,.put h1 h2 (h3.hokL ht),by rw[Ph.if_val],h3⟩
 |back=>
  obtain⟨b,L,hH⟩:∃b L,S.H t=b::L:=by
   cases hH:S.H t with
   |nil=>exact absurd hH hph
   |cons b L=>exact⟨b,L,rfl⟩
  have hbk:=hI.hok t ht b (by rw[hH];simp)
  refine(hsBack_at h ht hH (fun x hx=>Keeps.inr_ hT hI (hd:=.han t) (k:=b.k) (a:=x) (by
   rw[tk_han ht,hH]
   have:=List.count_pos_iff.2 hx
   simp[htok]
   omega)) (fun a ha' l _=>hI.c.tok_ ha' hbk.k (h.good a b.k ha' hbk.k) l)).mono ?_
  rintro e w' ⟨v,S',h1,h2,rfl⟩
  exact⟨S',_,0,0,.back hH h1,by rw[Ph.if_val],h2⟩
 |give s A=>
  obtain⟨hH,a2,a3,a4,A2,p2,a5,a6,a7,a8⟩:=hph
  obtain⟨g,rfl⟩:∃g:Nat,A=(g:Int):=⟨A.toNat,by omega⟩
  refine(hsGive_at h ht (g:=g) (by omega) a4 (fun p hR=>?_)).mono ?_
  ·obtain⟨r1,r2⟩:=hI.c.run g s p (by omega) hR
   have hsp:∀b,s*256<=b->b<s*256+p*256->who b≠ .spc/\∀a,who b≠ .bud a:=by
    intro b b1 b2
    rcases r2 with r2|⟨u,r2⟩<;>rw[r2 b b1 b2]<;>simp
   obtain⟨q1,_⟩:=hI.c.inr_ (a:=s*256) (hsp _ (Int.le_refl _) (by omega)).1
   obtain⟨q2,_⟩:=hI.c.inr_ (a:=s*256+p*256-1) (hsp _ (by omega) (by omega)).1
   refine⟨by omega,r1,by omega,fun x x1 x2 hx=>?_⟩
   exact(hsp (x*256) (by omega) (by omega)).2 g (hI.c.bud g x (by omega) hx (x*256) (Int.le_refl _) (by omega))
  ·rintro e w' ⟨rfl,⟨h1,h2⟩|⟨p,B',L',h1,h2,h3,h4⟩⟩
   ·exact⟨S,.none,0,0,.giveNo (by rw[Int.toNat_natCast];exact h1),rfl,h2⟩
   ·refine⟨_,.none,0,0,.giveYes (p:=p) (B':=B') (L':=L') (by rw[Int.toNat_natCast];exact h1) (by rw[Int.toNat_natCast];exact h3) (by rw[Int.toNat_natCast];exact h4),rfl,?_⟩
    rw[Int.toNat_natCast]
    exact h2
 |drain=>
  refine(hsDrain_at h ht).mono ?_
  rintro e w' ⟨C',v,L,h1,h2,h3,rfl⟩
  exact⟨_,_,0,0,.drain h1 h2 (h3.hokL ht),by rw[Ph.if_val],h3⟩
theorem Ph.val_cases (p:Ph):p=.none\/(p≠ .none/\∃T V,p.val=.iface T V):=by
 cases p with
 |none=>exact .inl rfl
 |_=>exact .inr ⟨by simp,_,_,rfl⟩
def Ph.isN:Ph->Bool
 | .none=>true
 |_=>false
theorem Ph.isN_no {p:Ph} (h:p≠ .none):p.isN=false:=by cases p<;>first|rfl|exact absurd rfl h
theorem ph_if:Tryz.prog.underlying 116=some (.interface (Tryz.prog.methodsAt 116)):=by kernel_rfl
theorem ph_eql (T:TypeId) (V:Value) (W:World):(binOp .eql 116 (.iface T V) .nilIface).run Tryz.prog W=.ok (.bool false) W:=run_eql_held_nil W _ T V ph_if
theorem ph_eql0 (W:World):(binOp .eql 116 .nilIface .nilIface).run Tryz.prog W=.ok (.bool true) W:=run_eql_nil_nil W _ ph_if
theorem ph_neq0 (W:World):(binOp .neq 116 .nilIface .nilIface).run Tryz.prog W=.ok (.bool false) W:=run_neq_nil_nil W _ ph_if
theorem rowF_ph {P:Hp} {hv:Nat->Value} {ph:Nat->Ph} {t:Nat} {p:Ph} (k:Nat):(if k=t*3+2 then p.val else rowF P hv ph k)=rowF P hv (upd ph t p) k:=by
 unfold rowF
 by_cases e:k=t*3+2
 ·subst e
  rw[if_pos rfl,if_neg (by omega),if_neg (by omega),show(t*3+2)/3=t by omega,upd_at]
 ·rw[if_neg e]
  by_cases e1:k%3=0
  ·rw[if_pos e1,if_pos e1]
  ·rw[if_neg e1,if_neg e1]
   by_cases e2:k%3=1
   ·rw[if_pos e2,if_pos e2]
   ·rw[if_neg e2,if_neg e2,upd_ne (by omega)]
theorem HSys.setPh {P:Hp} {S:HS} {w:World} {FP:List Nat} (h:HSys P S w FP) (t:Nat) (p:Ph):Turns (HSys P (S.phs t p)) w FP (w.setCell ⟨P.gT,t*3+2,none⟩ p.val):=by
 obtain⟨f,hf,_,hg⟩:=h.turns .row
 obtain⟨r1,rfl⟩:=hf
 exact hg _ _ (St_ph P S _) ⟨(Only.refl [P.gT] w).setCell (p:=⟨P.gT,t*3+2,none⟩) (.inl (by simp)) _,[P.gT],⟨(r1.set_ (t*3+2) p.val).congr (fun k _=>rowF_ph k),rfl⟩,fun b hb=>.inl hb⟩
theorem Ctx.setPh {P:Hp} {Sc:HS} {w W:World} {FP:List Nat} {Ls:World->List Nat->Prop} {bx:List (Nat×TypeId×Array Value)} (F:Framed Ls) (h:Ctx P Sc w FP Ls bx W) (t:Nat) (p:Ph):Ctx P (Sc.phs t p) w FP Ls bx (W.setCell ⟨P.gT,t*3+2,none⟩ p.val):=h.step F (fun _ hs=>hs.setPh t p)
theorem phCells {P:Hp} {Sc:HS} {w W:World} {FP:List Nat} {Ls:World->List Nat->Prop} {bx:List (Nat×TypeId×Array Value)} {t:Nat} (ht:t<P.nt) (h:Ctx P Sc w FP Ls bx W):
 W.cell? ⟨P.h,8,none⟩=some (.slice (some ⟨P.gT,0,none⟩) P.nt P.cT)/\W.cell? ⟨P.gT,t*3+2,none⟩=some (Sc.ph t).val/\W.frozen? ⟨P.gT,t*3+2,none⟩=false:=by
 obtain⟨FPc,hs⟩:=h.sys_
 obtain⟨_,_,h3,h4⟩:=hs.trow ht
 exact⟨hs.hcells.c8,h3,h4 _⟩
theorem results_spr {fn:Func} {t u v:Tmp} (h:fn.results=#[.tmp t,.cell u 66,.tmp v]) {tmps:Array Value} {w:World} {b:Nat} {x y:Int} (hu:tmps.getD u undef=.pointer (some ⟨b,0,none⟩)) (h0:w.cell? ⟨b,0,none⟩=some (.int .i64 x)) (h1:w.cell? ⟨b,1,none⟩=some (.int .i64 y)):
 (results fn tmps).run Tryz.prog w=.ok (.tuple #[tmps.getD t undef,.agg #[.int .i64 x,.int .i64 y],tmps.getD v undef]) w:=by
 have hu':tmps[u]?.getD undef=.pointer (some ⟨b,0,none⟩):=by simpa using hu
 simp[results,h,hu',go_sem,h0,h1]
set_option maxHeartbeats 2000000 in
theorem hStep_at {P:Hp} {S:HS} {w:World} {FP:List Nat} {who:Who} (h:HSys P S w FP) (hI:Inv P S who) {t:Nat} (ht:t<P.nt) {p:Ph} (hp:S.ph t=p) (hn:p≠ .none):
 Calls Tryz.prog 69 #[.pointer (some ⟨P.h,0,none⟩),.int .i64 t] w fun e w'=>∃S' p' x er,PStep P S t p S' p' (x,er)/\e=.returned (.tuple #[.bool p'.isN,.agg #[.int .i64 x,.int .i64 er],.int .i64 0])/\Turns (HSys P (S'.phs t p')) w FP w':=by
 have c0:=(Ctx.start h).push NoL.framed #[.int .i64 0,.int .i64 0] 66
 obtain⟨n1,n2,n3,n4,n5,n6,n7,n8,n9⟩:=h.nums
 have HC0:=Lib.hid c0
 have HT:=Lib.hid ht
 have HB3:=Lib.hid h.big
 have CM:=Lib.hid (fun (W:World) (bx:List (Nat×TypeId×Array Value)) (hc:Ctx P S w FP NoL bx W)=>hc.sys_.elim (fun FPd hs=>hmade2_at hs))
 have CE:=Lib.hid (fun (W:World) (bx:List (Nat×TypeId×Array Value)) (hc:Ctx P S w FP NoL bx W)=>hc.sys_.elim (fun FPd hs=>hthere_at hs ht))
 have CT:=Lib.hid (fun (W:World) (bx:List (Nat×TypeId×Array Value)) (hc:Ctx P S w FP NoL bx W)=>hc.call (f:=77) (args:=#[.pointer (some ⟨P.h,0,none⟩),.int .i64 t,p.val]) (α:=HS×Ph×Int×Int) (R:=fun x e=>e=.returned (.tuple #[x.2.1.val,.agg #[.int .i64 x.2.2.1,.int .i64 x.2.2.2]])/\PStep P S t p x.1 x.2.1 x.2.2) (S':=fun x=>x.1) NoL.framed (fun FPc hs=>(hstep_at hs hI ht hp hn).mono (fun e w' ⟨S',p',x,er,q1,q2,q3⟩=>⟨(S',p',x,er),⟨q2,q1⟩,q3⟩)))
 obtain⟨z1,z2,z3⟩:=phCells ht c0
 rw[hp] at z2
 obtain⟨T,V,hV⟩:=(p.val_cases.resolve_left hn).2
 rw[hV] at z2 CT
 have e1:=ph_eql T V
 have HI:=Lib.hid hI
 clear h hI hp c0
 generalize hnt:P.nt=nt at *
 have HNT:=Lib.hid hnt
 clear hnt
 go_enter Tryz.func69,Tryz.ntmps69
 go_wp2_with (first
  |(go_at_call 30;with_reducible refine Still.use (CM.out _ _ HC0.out) ?_)
  |(go_at_call 52;with_reducible refine Still.use (CE.out _ _ HC0.out) ?_))
 refine(CT.out _ _ HC0.out).mono ?_
 rintro r wN ⟨⟨S',p',x,er⟩,⟨rfl,hps⟩,hbd⟩
 dsimp only at hps hbd
 replace hbd:Ctx P S' w FP NoL [(w.heap.size,66,#[.int .i64 0,.int .i64 0])] wN:=hbd
 have HPS:=Lib.hid hps
 have hb2:=hbd.push NoL.framed #[.int .i64 x,.int .i64 er] 66
 obtain⟨y1,_,y3⟩:=phCells (by rw[HNT.out];exact HT.out) hb2
 rw[HNT.out] at y1
 have HW:Hid (wN.heap.size≠w.heap.size):=Nat.ne_of_gt (hbd.box (x:=(w.heap.size,66,#[.int .i64 0,.int .i64 0])) (by simp)).lt
 have hb3:=hb2.setPh NoL.framed t p'
 have hres:=(hb3.res (b:=w.heap.size) (mcm _ (mcs ..)) (Nat.le_refl _) HB3.out [] (fun x hx=>by cases hx) x er).still NoL.framed ((Only.refl [] _).drew)
 have HBR:=Lib.hid hres
 obtain⟨r0,f0⟩:=bxCell hb2 (mcm _ (mcs ..)) 0 rfl
 obtain⟨r1,f1⟩:=bxCell hb2 (mcm _ (mcs ..)) 1 rfl
 clear hps hbd hb2 hb3 hres CT CM CE HC0
 rcases p'.val_cases with h0|⟨h0,T',V',hV'⟩
 ·subst h0
  have e2:=ph_eql0
  unfold Ph.val
  go_wp2_with fail
  go_region
  go_wp2_with fail
  refine bodyPost_ret (results_spr rfl rfl (bxCell HBR.out (mcs ..) 0 rfl).1 (bxCell HBR.out (mcs ..) 1 rfl).1) rfl ?_
  exact⟨S',.none,x,er,HPS.out,rfl,HBR.out.turns⟩
 ·have e2:=ph_eql T' V'
  rw[hV'] at HBR ⊢
  have HIN:=Lib.hid (Ph.isN_no h0)
  clear h0 hV'
  go_wp2_with fail
  go_region
  go_wp2_with fail
  refine bodyPost_ret (results_spr rfl rfl (bxCell HBR.out (mcs ..) 0 rfl).1 (bxCell HBR.out (mcs ..) 1 rfl).1) rfl ?_
  exact⟨S',p',x,er,HPS.out,by rw[HIN.out];rfl,HBR.out.turns⟩
inductive Opr where
 |malloc (s:Int)
 |free (a:Int)
 |flush
 deriving DecidableEq
def Opr.val:Opr->Value
 | .malloc s=>.agg #[.int .i64 0,.int .i64 s,.int .i64 8,.int .i64 0]
 | .free a=>.agg #[.int .i64 1,.int .i64 0,.int .i64 0,.int .i64 a]
 | .flush=>.agg #[.int .i64 2,.int .i64 0,.int .i64 0,.int .i64 0]
def phOf (T:List Z.Cl):Opr->Ph
 | .malloc s=>if T.findIdx (Z.fitsC s 8)<T.length then .take (T.findIdx (Z.fitsC s 8)) else .large ((s+255)/256).toNat
 | .free a=>.find a
 | .flush=>.drain
def Opr.ok:Opr->Prop
 | .malloc s=>1<=s/\s<=4096
 | .free a=>I64 a
 | .flush=>True
theorem pow8:Z.isPow 8:=by decide
set_option maxHeartbeats 2000000 in
theorem hreq_at {P:Hp} {S:HS} {w:World} {FP:List Nat} (h:HSys P S w FP) (o:Opr) (ho:o.ok):Grew Tryz.prog 79 #[.pointer (some ⟨P.h,0,none⟩),o.val] w (phOf P.T o).val:=by
 cases o with
 |malloc s=>
  have c0:=(Ctx.start h).push NoL.framed #[.int .i64 0,.int .i64 s,.int .i64 8,.int .i64 0] 64
  have hT:=h.isT
  have HCLS:Hid (Z.clsOf P.T s 8=if P.T.findIdx (Z.fitsC s 8)<P.T.length then(((P.T.findIdx (Z.fitsC s 8):Nat):Int),(0:Int)) else(0,4)):=by
   show _=_
   unfold Z.clsOf
   rw[if_neg (by simpa using hT),if_neg (by simp only[Decidable.not_not];exact⟨ho.1,pow8⟩)]
  have CT:=Lib.hid (fun (W:World) (bx:List (Nat×TypeId×Array Value)) (hc:Ctx P S w FP NoL bx W)=>(hc.sys_.elim (fun FP0 hs=>by
   obtain⟨f,hf,_⟩:=hs.stat
   obtain⟨_,_,_,_,_,_,_,hl,_⟩:=hs.nums
   exact Z.Class_any W _ _ _ _ hf.tab (by omega) s 8):Grew Tryz.prog 100 #[.slice (some P.ta) P.T.length P.tc,.int .i64 s,.int .i64 8] W (.tuple #[.int .i64 (Z.clsOf P.T s 8).1,.int .i64 (Z.clsOf P.T s 8).2])))
  have HC0:=Lib.hid c0
  have HL1:=Lib.hid ((fun (W:World) (bx:List (Nat×TypeId×Array Value)) (hc:Ctx P S w FP NoL bx W)=>hc.sys_.elim (fun FP0 hs=>hs.hcells.c0)))
  have HPV:Hid ((phOf P.T (.malloc s)).val=if P.T.findIdx (Z.fitsC s 8)<P.T.length then(Ph.take (P.T.findIdx (Z.fitsC s 8))).val else(Ph.large ((s+255)/256).toNat).val):=by
   show _=_
   unfold phOf
   dsimp only
   split<;>rfl
  rw[HPV.out]
  obtain⟨o1,o2⟩:=ho
  rw[HCLS.out] at CT
  have w1:IntKind.i64.wrap (s+256)=s+256:=IntWalk.i64_in _ (by omega)
  have w2:IntKind.i64.wrap (s+256-1)=s+256-1:=IntWalk.i64_in _ (by omega)
  have w3:(s+256-1).tdiv 256=(((s+255)/256).toNat:Int):=by
   rw[Int.tdiv_eq_ediv_of_nonneg (by omega)]
   omega
  have w4:IntKind.i64.wrap ((((s+255)/256).toNat:Nat):Int)=(((s+255)/256).toNat:Int):=IntWalk.i64_in _ (by omega)
  have d1:decide (s<1)=false:=decide_eq_false (by omega)
  have d2:decide (16384<s)=false:=decide_eq_false (by omega)
  have HBW:=Lib.hid h.big
  generalize ((s+255)/256).toNat=pgs at *
  generalize P.T.findIdx (Z.fitsC s 8)=kk at *
  clear h c0 hT HCLS
  have x0:=(bxCell HC0.out (mcs ..) 0 rfl).1
  have x1:=(bxCell HC0.out (mcs ..) 1 rfl).1
  unfold Opr.val
  by_cases hk:kk<P.T.length
  ·rw[if_pos hk] at CT ⊢
   unfold Ph.val
   clear HPV
   go_enter Tryz.func79,Tryz.ntmps79
   go_wp2_with fail
   have hbd:=HC0.out.still NoL.framed ((Only.refl [] _).drew)
   have hon:=((Only.refl [] w).alloc (.cells #[.int .i64 0,.int .i64 s,.int .i64 8,.int .i64 0] 64)).drew
   go_region_held3 (fun U=>U.cell? ⟨P.h,0,none⟩=some (.slice (some P.ta) P.T.length P.tc)/\U.cell? ⟨w.heap.size,1,none⟩=some (.int .i64 s)/\U.cell? ⟨w.heap.size,2,none⟩=some (.int .i64 8))
    (exact⟨HL1.out _ _ hbd,(bxCell hbd (mcs ..) 1 rfl).1,(bxCell hbd (mcs ..) 2 rfl).1⟩)
    (first
     |(go_at_call 100;with_reducible refine Grew.use (CT.out _ _ hbd) (fun wN hoN=>?_);replace hbd:=hbd.still NoL.framed hoN;replace hon:=Only.trans hon hoN))
   go_wp2_with fail
   go_ret
   exact⟨rfl,hon⟩
  ·rw[if_neg hk] at CT ⊢
   unfold Ph.val
   clear HPV
   go_enter Tryz.func79,Tryz.ntmps79
   go_wp2_with fail
   have hbd:=HC0.out.still NoL.framed ((Only.refl [] _).drew)
   have hon:=((Only.refl [] w).alloc (.cells #[.int .i64 0,.int .i64 s,.int .i64 8,.int .i64 0] 64)).drew
   go_region_held3 (fun U=>U.cell? ⟨P.h,0,none⟩=some (.slice (some P.ta) P.T.length P.tc)/\U.cell? ⟨w.heap.size,1,none⟩=some (.int .i64 s)/\U.cell? ⟨w.heap.size,2,none⟩=some (.int .i64 8))
    (exact⟨HL1.out _ _ hbd,(bxCell hbd (mcs ..) 1 rfl).1,(bxCell hbd (mcs ..) 2 rfl).1⟩)
    (first
     |(go_at_call 100;with_reducible refine Grew.use (CT.out _ _ hbd) (fun wN hoN=>?_);replace hbd:=hbd.still NoL.framed hoN;replace hon:=Only.trans hon hoN))
   have x2:=(bxCell hbd (mcs ..) 1 rfl).1
   go_wp2_with fail
   go_ret
   exact⟨rfl,hon⟩
 |free a=>
  clear h
  unfold Opr.val phOf Ph.val
  go_enter Tryz.func79,Tryz.ntmps79
  go_wp2_with fail
  go_ret
  exact⟨rfl,(Only.refl [] w).alloc _⟩
 |flush=>
  clear h
  unfold Opr.val phOf Ph.val
  go_enter Tryz.func79,Tryz.ntmps79
  go_wp2_with fail
  go_ret
  exact⟨rfl,(Only.refl [] w).alloc _⟩
set_option maxHeartbeats 2000000 in
theorem hStart_at {P:Hp} {S:HS} {w:World} {FP:List Nat} (h:HSys P S w FP) {t:Nat} (ht:t<P.nt) (hp:S.ph t=.none) (o:Opr) (ho:o.ok):Calls Tryz.prog 73 #[.pointer (some ⟨P.h,0,none⟩),.int .i64 t,o.val] w fun e w'=>e=.returned (.int .i64 0)/\Turns (HSys P (S.phs t (phOf P.T o))) w FP w':=by
 obtain⟨a,b,c,d,hcs⟩:∃a b c d:Int,o.val=.agg #[.int .i64 a,.int .i64 b,.int .i64 c,.int .i64 d]:=by cases o<;>exact⟨_,_,_,_,rfl⟩
 have c0:=(Ctx.start h).push NoL.framed #[.int .i64 a,.int .i64 b,.int .i64 c,.int .i64 d] 64
 obtain⟨n1,n2,n3,n4,n5,n6,n7,n8,n9⟩:=h.nums
 have HC0:=Lib.hid c0
 have HT:=Lib.hid ht
 have CM:=Lib.hid (fun (W:World) (bx:List (Nat×TypeId×Array Value)) (hc:Ctx P S w FP NoL bx W)=>hc.sys_.elim (fun FPd hs=>hmade2_at hs))
 have CE:=Lib.hid (fun (W:World) (bx:List (Nat×TypeId×Array Value)) (hc:Ctx P S w FP NoL bx W)=>hc.sys_.elim (fun FPd hs=>hthere_at hs ht))
 have CT:=Lib.hid (fun (W:World) (bx:List (Nat×TypeId×Array Value)) (hc:Ctx P S w FP NoL bx W)=>hc.sys_.elim (fun FPd hs=>hreq_at hs o ho))
 obtain⟨z1,z2,z3⟩:=phCells ht c0
 rw[hp] at z2
 have e1:=ph_neq0
 obtain⟨T,V,hV⟩:=((phOf P.T o).val_cases.resolve_left (by cases o with
  |malloc s=>unfold phOf;dsimp only;split<;>simp
  |_=>simp[phOf])).2
 have e2:=ph_eql T V
 rw[hV,hcs] at CT
 have HV:=Lib.hid hV
 clear h hp c0
 rw[hcs]
 generalize hnt:P.nt=nt at *
 have HNT:=Lib.hid hnt
 clear hnt hV
 unfold Ph.val at z2
 go_enter Tryz.func73,Tryz.ntmps73
 go_wp2_with (first
  |(go_at_call 30;with_reducible refine Still.use (CM.out _ _ HC0.out) ?_)
  |(go_at_call 52;with_reducible refine Still.use (CE.out _ _ HC0.out) ?_))
 refine Grew.use (CT.out _ _ HC0.out) (fun wN hoN=>?_)
 have hbd:=HC0.out.still NoL.framed hoN
 obtain⟨y1,_,y3⟩:=phCells (by rw[HNT.out];exact HT.out) hbd
 rw[HNT.out] at y1
 have hb3:=hbd.setPh NoL.framed t (phOf P.T o)
 rw[HV.out] at hb3
 have HB:=Lib.hid hb3
 clear hbd hb3 CT CE CM HC0 z1 z2 z3
 go_wp2_with fail
 go_ret
 exact⟨rfl,HB.out.turns⟩
end Go.Proofs.YtcidjimefnhacaaGreatDoor
