/- TopSchedules, a part of the proof: SzG, SzH. -/
import Derived.Test.YtcidjimefnhacaaGreatDoorM02
import Derived.Deep.AppendLies
set_option linter.unusedVariables false
set_option linter.unusedSimpArgs false
namespace Go.Proofs.YtcidjimefnhacaaGreatDoor.Z
open Go.RowKit
open Go.Shelf
attribute [local go_sem] Oper.semAt_some
section
variable {P:Program} {ops:Array Oper} {Q:Exit->Act->World->Prop} {md:Region.Mode} {l n:Nat}
theorem upon_round {o:Oper} {a:Act} {next:Act->World->Prop} {r:Result Next} (h:o.upon P a next Q r):o.uponIn (Fence.wide.inRound l) n P a next Q r:=by
 cases r with
 |ok x w'=>
  cases x<;>simp only[Oper.upon,Oper.uponIn] at h ⊢
  case value v=>exact h
  case skip=>exact h
  case defer d=>exact h
  case enter f args=>exact⟨(fun h=>by cases h),CallsIn.inRound l (callsIn_wide.2 h)⟩
  case row row args=>exact⟨(fun h=>by cases h),fun c cs _=>let ⟨v,w',r,s⟩:=h c cs;⟨v,w',r,stepsIn_wide.2 s⟩⟩
 |halt x w'=>cases x<;>simp only[Oper.upon,Oper.uponIn] at h ⊢ <;>exact h
theorem wpOp_round (hd:∀(j:Nat) (o:Oper),ops[j]? =some o->∀c,o.op≠ .defer c) (hlo:¬LetsOut Q) {i:Nat} {K K':Act->World->Prop} {a:Act} {w:World} (hK:∀a w,K a w->K' a w)
 (h:wpOp P ops Q i K a w):wpOpIn (Fence.wide.inRound l) n P ops Q i K' a w:=by
 refine wpOpIn_mono hK ?_
 unfold wpOp at h
 unfold wpOpIn
 split
 ·rename_i ho;simpa[ho] using h
 ·rename_i o ho
  simp only[ho] at h
  split
  ·rename_i hw
   simp only[hw,if_true] at h
   rcases h with h|h
   ·unfold Oper.wpIn
    refine⟨fun _ _=>trivial,?_⟩
    rw[show(Fence.wide.inRound l).round=some l from rfl,Oper.semAt_some l _ _ (hd i o ho)]
    exact upon_round h
   ·exact absurd h.2 hlo
  ·rename_i hw
   simp only[hw] at h
   exact⟨fun _ _=>trivial,h⟩
def noDefer (ops:Array Oper):Bool:=ops.toList.all fun o=>match o.op with| .defer _=>false|_=>true
theorem noDefer_spec (h:noDefer ops=true):∀(j:Nat) (o:Oper),ops[j]? =some o->∀c,o.op≠ .defer c:=by
 intro j o ho c hc
 unfold noDefer at h
 rw[List.all_eq_true] at h
 have hm:o∈ops.toList:=by rw[<-Array.getElem?_toList] at ho;exact List.mem_of_getElem? ho
 have:=h o hm
 rw[hc] at this
 cases this
theorem wpAny_round (hd:∀(j:Nat) (o:Oper),ops[j]? =some o->∀c,o.op≠ .defer c) (hlo:¬LetsOut Q):∀(fuel:Nat) (listed:Array Bool) (a:Act) (w:World),wpAny P md ops Q fuel listed a w->wpAnyIn (Fence.wide.inRound l) n P md ops Q fuel listed a w
 |0,_,_,_,h=>h
 |fuel+1,_,_,_,h=>⟨h.1,fun i hi=>wpOp_round hd hlo (fun a w=>wpAny_round hd hlo fuel _ a w) (h.2 i hi)⟩
end
def bat (q:Int):Int:=if 32<(if q<2 then 2 else q) then 32 else(if q<2 then 2 else q)
def classOf (waste s:Int):Cl:=⟨s,pgs s waste,bat (512/s)⟩
def allC (waste:Int):List Cl:=(allS waste).map (classOf waste)
def keepAt (l:List Cl) (i:Nat):Bool:= !(decide (i+1<l.length)&&(cAt l (i+1)).p==(cAt l i).p&&(cAt l (i+1)).n==(cAt l i).n)
def outTo (l:List Cl):Nat->List Cl
 |0=>[]
 |k+1=>outTo l k++if keepAt l k then [cAt l k] else []
def makeC (waste:Int):List Cl:=outTo (allC waste) (allC waste).length
theorem Boxed.beside {W w1:World} {B:Nat} {t:TypeId} {u:Value} {tmp:Obj} {row:Option Nat} (h:Boxed W B t u) (hg:(W.alloc tmp).drew.grownBy w1 row) (hne:some B≠row):Boxed w1 B t u:=
 Boxed.kept (show Boxed (W.alloc tmp).drew B t u from h.alloc tmp) hg hne
theorem cands_length (waste:Int):∀(f:Nat) (s:Int),(cands waste f s).length<=f
 |0,_=>Nat.le_refl _
 |f+1,s=>by
  unfold cands
  split
  ·simpa using cands_length waste f _
  ·simp
theorem allC_length (waste:Int):(allC waste).length<=66:=by
 have:=cands_length waste 65 8
 unfold allC allS
 rw[List.length_map]
 split
 ·rw[List.length_append,List.length_singleton];omega
 ·omega
theorem outTo_le (l:List Cl) (k:Nat):(outTo l k).length<=k:=by
 induction k with
 |zero=>simp[outTo]
 |succ k ih=>simp only[outTo,List.length_append];split<;>simp<;>omega
theorem outTo_keep (l:List Cl) (k:Nat) (h:keepAt l k=true):outTo l (k+1)=outTo l k++[cAt l k]:=by simp only[outTo];rw[if_pos h]
theorem outTo_drop (l:List Cl) (k:Nat) (h:keepAt l k=false):outTo l (k+1)=outTo l k:=by simp only[outTo];rw[h];simp
theorem keepAt_eq (l:List Cl) (k:Nat):keepAt l k= !(decide (k+1<l.length)&&(cAt l (k+1)).p==(cAt l k).p&&(cAt l (k+1)).n==(cAt l k).n):=rfl
theorem info_class:(Tryz.prog.info? 101).map (fun i=>(i.zero,i.size,i.bytes))=some (some (.agg #[.int .i64 0,.int .i64 0,.int .i64 0]),3,24):=by kernel_rfl
set_option maxRecDepth 100000 in
set_option maxHeartbeats 4000000 in
theorem Make_any (w:World) (waste:Int) (hw1:2<=waste) (hw2:waste<=16):
 Calls Tryz.prog 22 #[.int .i64 waste] w fun e w'=>
  ∃v,e=.returned (.tuple #[v,.int .i64 0])/\w'.ownsRow w.heap.size 101 3 v (makeC waste).length (cellsC (makeC waste))/\Below w.heap.size w w':=by
 obtain⟨i0,hi,hz0,hz1,hz2⟩:=info_parts info_class
 have d1:decide (waste<2)=false:=decide_eq_false (by omega)
 have d2:decide (16<waste)=false:=decide_eq_false (by omega)
 refine(callsIn_wide (n:=5)).1 ?_
 refine callsIn_of_wp_marks Tryz.func22 rfl trivial ?_ rfl
 simp only[Tryz.ntmps22,List.size_toArray,List.length_cons,List.length_nil,Nat.reduceAdd,Nat.reduceSub,Array.replicate_succ,Array.replicate_zero,List.push_toArray,List.append_toArray,List.nil_append,List.cons_append]
 gi_wp2_with (refine⟨trivial,?_⟩;gi_at_call 42;refine(callsIn_wide.2 (candidates_any _ waste)).mono ?_;rintro e w' ⟨rfl,rfl⟩)
 have bW:=Boxed.new w 3 (.int .i64 waste)
 have bA:=Boxed.new (w.alloc (.cells #[.int .i64 waste] 3)) 56 (.slice none 0 0)
 have bC:=Boxed.new ((w.alloc (.cells #[.int .i64 waste] 3)).alloc (.cells #[.slice none 0 0] 56)) 3 (.int .i64 waste)
 simp only[World.size_alloc] at bA bC
 have bW2:=(bW.alloc (.cells #[.slice none 0 0] 56)).alloc (.cells #[.int .i64 waste] 3)
 have bA2:=bA.alloc (.cells #[.int .i64 waste] 3)
 have hB0:Below w.heap.size w (((w.alloc (.cells #[.int .i64 waste] 3)).alloc (.cells #[.slice none 0 0] 56)).alloc (.cells #[.int .i64 waste] 3)):=(((Below.refl _ w).alloc (Nat.le_refl _) _).alloc (by simp) _).alloc (by simp;omega) _
 clear bW bA
 refine wpIn_rangeFunc_ownG rfl (by omega) (gf:=58) (lb:=#[.pointer (some ⟨w.heap.size+1+1,0,none⟩)]) rfl trivial (enters_of Tryz.func58 (by kernel_rfl) rfl)
  (cand_stops _ (by omega) (w.heap.size+1+1) waste hw1 hw2 _ (by simp) bC.cell)
  (fun h k v hv=>k v (h v hv)) (fun W l o o' hl ho hc _ v hv=>?kb) (Below.refl _ _) (fun _=>rfl)
  (fun (pre:List Sz) W=>(∃v,Boxed W (w.heap.size+1) 56 v/\W.ownsRow w.heap.size 101 3 v pre.length (cellsC (pre.map (fun x=>classOf waste x.1)))/\True)/\Boxed W w.heap.size 3 (.int .i64 waste)/\Boxed W (w.heap.size+1+1) 3 (.int .i64 waste)/\Below w.heap.size w W)
  (fun _ _ _=>False)
  (OwnFrom.and (Own.from (holdsRow_own w.heap.size (w.heap.size+1) 56 101 3 (fun pre:List Sz=>pre.length) (fun pre=>cellsC (pre.map (fun x=>classOf waste x.1))) (fun _ _=>True)) _) (OwnFrom.and (Own.from (boxed_own _ _ _) _) (OwnFrom.and (Own.from (boxed_own _ _ _) _) (ownFrom_below (Nat.le_refl _) (by simp;omega)))))
  (fun _ _ _ _ _ hs _ _=>hs)
  ⟨⟨_,bA2,World.ownsRow_nil _ _ _ _,trivial⟩,bW2,bC,hB0⟩
  (fun x=>{tmps:=#[.int .i64 waste,.pointer (some ⟨w.heap.size,0,none⟩),.slice none 0 0,.int .i64 0,.pointer (some ⟨w.heap.size+1,0,none⟩),.int .i64 x.1,undef,undef,undef,undef,.int .i64 waste,.bool false,.bool false,.int .i64 waste,.bool false,.bool false,.int .i64 waste,.func (.func 58) #[] #[.pointer (some ⟨w.heap.size+1+1,0,none⟩)],.int .i64 x.1,undef,undef,undef,undef,undef,undef,undef,undef,undef,undef,undef,undef,undef,undef,undef,undef,undef,undef,undef,undef,undef,undef,undef,undef,undef,undef,undef,undef,undef,undef,undef,undef,undef,undef,undef,undef,undef,undef,undef,undef,undef,undef,undef,undef,undef,undef,undef,undef,undef,undef,undef,undef,undef],defers:=[]}) ?assign ?body ?done ?stop
 case kb=>
  have h1:=World.block_lt_of_cell? W _ hv
  exact((Below.refl (w.heap.size+1+1+1) W).grown (grownBy_putObj' W l o') (by have h2:w.heap.size+1+1<W.heap.size:=h1;omega) (fun k e=>by cases e;simpa using hl)).cell (p:=⟨w.heap.size+1+1,0,none⟩) (by simp) |>.trans hv
 case assign=>
  intro l x W K hK
  gi_wp2
  exact hK
 case body=>
  rintro l pre x W ⟨⟨v,hv,hrow,_⟩,hW,hC,hB⟩ hlen
  obtain⟨hx1,hx2⟩:=x.2
  have hs0:(x.1==0)=false:=beq_eq_false_iff_ne.2 (by omega)
  have hsz:=hB.size
  have hvl:=hv.lt
  have hwl:=hW.lt
  have hcl:=hC.lt
  have q0:0<=512/x.1:=Int.ediv_nonneg (by omega) (by omega)
  have q1:512/x.1<=512:=Int.ediv_le_self _ (by omega)
  gi_wp2
  all_goals
   refine wpIn_region_any (by kernel_rfl) ?_
   refine wpAny_round ?hd ?hlo _ _ _ _ (wpAny_of_held (S:=fun W'=>W'.cell? ⟨w.heap.size,0,none⟩=some (.int .i64 waste)) _ _ _ _ ?_)
   case hd=>exact noDefer_spec (by kernel_rfl)
   case hlo=>(rintro ⟨_,_,h⟩;exact h)
   have hS0:W.drew.cell? ⟨w.heap.size,0,none⟩=some (.int .i64 waste):=hW.cell
   have hV0:W.drew.cell? ⟨w.heap.size+1,0,none⟩=some v:=hv.cell
   have hS1:∀o:Obj,(W.alloc o).cell? ⟨w.heap.size,0,none⟩=some (.int .i64 waste):=fun o=>(hW.alloc o).cell
   have hV1:∀o:Obj,(W.alloc o).cell? ⟨w.heap.size+1,0,none⟩=some v:=fun o=>(hv.alloc o).cell
   change wpAnyH _ _ _ _ _ _ _ _ (World.drew _)
   refine wpAnyH_take (i:=1) (v:=?_) rfl (by kernel_rfl) (by kernel_rfl) (by kernel_rfl) (fun _ _ _ h=>h) (Or.inl ⟨by rfl,?_⟩) (by assumption) ?_
   rotate_left
   ·(intro w' hS;go_simp;try with_reducible rfl)
   simp only[Act.put,List.getElem_toArray,List.getElem_cons_succ,List.getElem_cons_zero,List.setIfInBounds_toArray,List.set_cons_zero,List.set_cons_succ]
   refine wpAnyH_take (i:=2) (v:=?_) rfl (by kernel_rfl) (by kernel_rfl) (by kernel_rfl) (fun _ _ _ h=>h) (Or.inl ⟨by rfl,?_⟩) (by assumption) ?_
   rotate_left
   ·(intro w' hS;go_simp;try with_reducible rfl)
   simp only[Act.put,List.getElem_toArray,List.getElem_cons_succ,List.getElem_cons_zero,List.setIfInBounds_toArray,List.set_cons_zero,List.set_cons_succ]
   refine wpAnyH_take (i:=3) (v:=?_) rfl (by kernel_rfl) (by kernel_rfl) (by kernel_rfl) (fun _ _ _ h=>h) (Or.inl ⟨by rfl,?_⟩) (by assumption) ?_
   rotate_left
   ·(intro w' hS;go_simp;try with_reducible rfl)
   simp only[Act.put,List.getElem_toArray,List.getElem_cons_succ,List.getElem_cons_zero,List.setIfInBounds_toArray,List.set_cons_zero,List.set_cons_succ]
   refine wpAnyH_take (i:=5) (v:=?_) rfl (by kernel_rfl) (by kernel_rfl) (by kernel_rfl) (fun _ _ _ h=>h) (Or.inl ⟨by rfl,?_⟩) (by assumption) ?_
   rotate_left
   ·(intro w' hS;go_simp;try with_reducible rfl)
   simp only[Act.put,List.getElem_toArray,List.getElem_cons_succ,List.getElem_cons_zero,List.setIfInBounds_toArray,List.set_cons_zero,List.set_cons_succ]
   refine wpAnyH_ready (rs:=[0,4]) (by kernel_rfl) (by simp) ?_
   refine AllReadyH.cons rfl (fun K hK=>?_) (AllReadyH.cons rfl (fun K hK=>?_) AllReadyH.nil)
   ·go_simp
    refine hK.out _ _ hS0 (fun _=>?_)
    clear hK K
    refine wpAnyH_ready (rs:=[4]) (by kernel_rfl) (by simp) ?_
    refine AllReadyH.cons rfl (fun K hK=>?_) AllReadyH.nil
    go_simp
    refine Still.use (pages_any _ x.1 waste hx1 hx2 hw1 hw2) ?_
    refine hK.out _ _ hS0 (fun _=>?_)
    clear hK K
    refine wpAnyH_take (i:=6) (v:=?_) rfl (by kernel_rfl) (by kernel_rfl) (by kernel_rfl) (fun _ _ _ h=>h) (Or.inl ⟨by rfl,?_⟩) (by assumption) ?_
    rotate_left
    ·(intro w' hS;go_simp;try with_reducible rfl)
    simp only[Act.put,List.getElem_toArray,List.getElem_cons_succ,List.getElem_cons_zero,List.setIfInBounds_toArray,List.set_cons_zero,List.set_cons_succ]
    refine wpAnyH_ready (rs:=[7]) (by kernel_rfl) (by simp) ?_
    refine AllReadyH.cons rfl (fun K hK=>?_) AllReadyH.nil
    go_simp
    refine hK.out _ _ (hS1 _) (fun _=>?_)
    clear hK K
    refine wpAnyH_ready (rs:=[8]) (by kernel_rfl) (by simp) ?_
    refine AllReadyH.cons rfl (fun K hK=>?_) AllReadyH.nil
    refine step_append_lies _ rfl (.tmp 23) (.tmp 30) 56 rfl w.heap.size 101 i0 (.agg #[.int .i64 0,.int .i64 0,.int .i64 0]) 3 24 Tryz.underlying56 hi hz0 hz1 hz2 rfl (by decide) v pre.length _ rfl (hrow.alloc _) ⟨W.heap.size,0,none⟩ 1 1 _ rfl ?hlen (World.news_of_block (World.alloc_heap_new W _)) ?hone (by omega) (by unfold maxLen;omega) (by omega) (by simp;omega) (W.heap.size+1) (by simp) ?_
    case hlen=>rfl
    case hone=>simp[Value.oneCell']
    intro g cap w1 hown1 hg1 hgl hgt
    obtain⟨hv1,hv2,hr2,hk2,hb2⟩:=Boxed.appended (W:=W.drew) hv (by decide) hrow hsz (by omega) hown1 hg1
    have hC1:=Boxed.beside hC hg1 (hC.not_row (by decide) hrow)
    have hW1:=Boxed.beside hW hg1 (hW.not_row (by decide) hrow)
    have hC2:=hC1.other (B':=w.heap.size+1) (by omega) (.slice (some ⟨g,0,none⟩) (pre.length+1) cap)
    have hW2:=hW1.other (B':=w.heap.size+1) (by omega) (.slice (some ⟨g,0,none⟩) (pre.length+1) cap)
    have hcc:=hv1.cell
    have hff:=hv1.frozen
    refine hK.out _ _ hW1.cell (fun _=>?_)
    clear hK K
    refine wpAnyH_ready (rs:=[9]) (by kernel_rfl) (by simp) ?_
    refine AllReadyH.cons rfl (fun K hK=>?_) AllReadyH.nil
    go_simp
    refine hK.out _ _ hW2.cell (fun _=>?_)
    clear hK K
    refine wpAnyH_done (by kernel_rfl) ?_ _
    refine⟨((KeepsOthers.drew W).trans hk2).from _,fun u hu=>?_,⟨⟨_,hv2,?_,trivial⟩,hW2,hC2,hB.trans (((Below.refl _ W).drew).trans hb2)⟩⟩
    ·rw[hC.cell] at hu
     cases hu
     exact hC2.cell
    ·rw[List.map_append,List.length_append]
     have e:cellsC (pre.map (fun x=>classOf waste x.1)++[x].map (fun x=>classOf waste x.1))=cellsC (pre.map (fun x=>classOf waste x.1))++(classOf waste x.1).cells:=by simp[cellsC]
     rw[e]
     rw[show(classOf waste x.1).cells=[.int .i64 x.1,.int .i64 (pgs x.1 waste),.int .i64 (bat (512/x.1))] from rfl]
     first|rw[show bat (512/x.1)=512/x.1 by unfold bat;omega] |rw[show bat (512/x.1)=2 by unfold bat;omega] |rw[show bat (512/x.1)=32 by unfold bat;omega]
     exact hr2
   ·go_simp
    refine Still.use (pages_any _ x.1 waste hx1 hx2 hw1 hw2) ?_
    refine hK.out _ _ hS0 (fun _=>?_)
    clear hK K
    refine wpAnyH_take (i:=6) (v:=?_) rfl (by kernel_rfl) (by kernel_rfl) (by kernel_rfl) (fun _ _ _ h=>h) (Or.inl ⟨by rfl,?_⟩) (by assumption) ?_
    rotate_left
    ·(intro w' hS;go_simp;try with_reducible rfl)
    simp only[Act.put,List.getElem_toArray,List.getElem_cons_succ,List.getElem_cons_zero,List.setIfInBounds_toArray,List.set_cons_zero,List.set_cons_succ]
    refine wpAnyH_ready (rs:=[0,7]) (by kernel_rfl) (by simp) ?_
    refine AllReadyH.cons rfl (fun K hK=>?_) (AllReadyH.cons rfl (fun K hK=>?_) AllReadyH.nil)
    ·go_simp
     refine hK.out _ _ hS0 (fun _=>?_)
     clear hK K
     refine wpAnyH_ready (rs:=[7]) (by kernel_rfl) (by simp) ?_
     refine AllReadyH.cons rfl (fun K hK=>?_) AllReadyH.nil
     go_simp
     refine hK.out _ _ (hS1 _) (fun _=>?_)
     clear hK K
     refine wpAnyH_ready (rs:=[8]) (by kernel_rfl) (by simp) ?_
     refine AllReadyH.cons rfl (fun K hK=>?_) AllReadyH.nil
     refine step_append_lies _ rfl (.tmp 23) (.tmp 30) 56 rfl w.heap.size 101 i0 (.agg #[.int .i64 0,.int .i64 0,.int .i64 0]) 3 24 Tryz.underlying56 hi hz0 hz1 hz2 rfl (by decide) v pre.length _ rfl (hrow.alloc _) ⟨W.heap.size,0,none⟩ 1 1 _ rfl ?hlen (World.news_of_block (World.alloc_heap_new W _)) ?hone (by omega) (by unfold maxLen;omega) (by omega) (by simp;omega) (W.heap.size+1) (by simp) ?_
     case hlen=>rfl
     case hone=>simp[Value.oneCell']
     intro g cap w1 hown1 hg1 hgl hgt
     obtain⟨hv1,hv2,hr2,hk2,hb2⟩:=Boxed.appended (W:=W.drew) hv (by decide) hrow hsz (by omega) hown1 hg1
     have hC1:=Boxed.beside hC hg1 (hC.not_row (by decide) hrow)
     have hW1:=Boxed.beside hW hg1 (hW.not_row (by decide) hrow)
     have hC2:=hC1.other (B':=w.heap.size+1) (by omega) (.slice (some ⟨g,0,none⟩) (pre.length+1) cap)
     have hW2:=hW1.other (B':=w.heap.size+1) (by omega) (.slice (some ⟨g,0,none⟩) (pre.length+1) cap)
     have hcc:=hv1.cell
     have hff:=hv1.frozen
     refine hK.out _ _ hW1.cell (fun _=>?_)
     clear hK K
     refine wpAnyH_ready (rs:=[9]) (by kernel_rfl) (by simp) ?_
     refine AllReadyH.cons rfl (fun K hK=>?_) AllReadyH.nil
     go_simp
     refine hK.out _ _ hW2.cell (fun _=>?_)
     clear hK K
     refine wpAnyH_done (by kernel_rfl) ?_ _
     refine⟨((KeepsOthers.drew W).trans hk2).from _,fun u hu=>?_,⟨⟨_,hv2,?_,trivial⟩,hW2,hC2,hB.trans (((Below.refl _ W).drew).trans hb2)⟩⟩
     ·rw[hC.cell] at hu
      cases hu
      exact hC2.cell
     ·rw[List.map_append,List.length_append]
      have e:cellsC (pre.map (fun x=>classOf waste x.1)++[x].map (fun x=>classOf waste x.1))=cellsC (pre.map (fun x=>classOf waste x.1))++(classOf waste x.1).cells:=by simp[cellsC]
      rw[e]
      rw[show(classOf waste x.1).cells=[.int .i64 x.1,.int .i64 (pgs x.1 waste),.int .i64 (bat (512/x.1))] from rfl]
      first|rw[show bat (512/x.1)=512/x.1 by unfold bat;omega] |rw[show bat (512/x.1)=2 by unfold bat;omega] |rw[show bat (512/x.1)=32 by unfold bat;omega]
      exact hr2
    ·go_simp
     refine hK.out _ _ (hS1 _) (fun _=>?_)
     clear hK K
     refine wpAnyH_ready (rs:=[0]) (by kernel_rfl) (by simp) ?_
     refine AllReadyH.cons rfl (fun K hK=>?_) AllReadyH.nil
     go_simp
     refine hK.out _ _ (hS1 _) (fun _=>?_)
     clear hK K
     refine wpAnyH_ready (rs:=[8]) (by kernel_rfl) (by simp) ?_
     refine AllReadyH.cons rfl (fun K hK=>?_) AllReadyH.nil
     refine step_append_lies _ rfl (.tmp 23) (.tmp 30) 56 rfl w.heap.size 101 i0 (.agg #[.int .i64 0,.int .i64 0,.int .i64 0]) 3 24 Tryz.underlying56 hi hz0 hz1 hz2 rfl (by decide) v pre.length _ rfl (hrow.alloc _) ⟨W.heap.size,0,none⟩ 1 1 _ rfl ?hlen (World.news_of_block (World.alloc_heap_new W _)) ?hone (by omega) (by unfold maxLen;omega) (by omega) (by simp;omega) (W.heap.size+1) (by simp) ?_
     case hlen=>rfl
     case hone=>simp[Value.oneCell']
     intro g cap w1 hown1 hg1 hgl hgt
     obtain⟨hv1,hv2,hr2,hk2,hb2⟩:=Boxed.appended (W:=W.drew) hv (by decide) hrow hsz (by omega) hown1 hg1
     have hC1:=Boxed.beside hC hg1 (hC.not_row (by decide) hrow)
     have hW1:=Boxed.beside hW hg1 (hW.not_row (by decide) hrow)
     have hC2:=hC1.other (B':=w.heap.size+1) (by omega) (.slice (some ⟨g,0,none⟩) (pre.length+1) cap)
     have hW2:=hW1.other (B':=w.heap.size+1) (by omega) (.slice (some ⟨g,0,none⟩) (pre.length+1) cap)
     have hcc:=hv1.cell
     have hff:=hv1.frozen
     refine hK.out _ _ hW1.cell (fun _=>?_)
     clear hK K
     refine wpAnyH_ready (rs:=[9]) (by kernel_rfl) (by simp) ?_
     refine AllReadyH.cons rfl (fun K hK=>?_) AllReadyH.nil
     go_simp
     refine hK.out _ _ hW2.cell (fun _=>?_)
     clear hK K
     refine wpAnyH_done (by kernel_rfl) ?_ _
     refine⟨((KeepsOthers.drew W).trans hk2).from _,fun u hu=>?_,⟨⟨_,hv2,?_,trivial⟩,hW2,hC2,hB.trans (((Below.refl _ W).drew).trans hb2)⟩⟩
     ·rw[hC.cell] at hu
      cases hu
      exact hC2.cell
     ·rw[List.map_append,List.length_append]
      have e:cellsC (pre.map (fun x=>classOf waste x.1)++[x].map (fun x=>classOf waste x.1))=cellsC (pre.map (fun x=>classOf waste x.1))++(classOf waste x.1).cells:=by simp[cellsC]
      rw[e]
      rw[show(classOf waste x.1).cells=[.int .i64 x.1,.int .i64 (pgs x.1 waste),.int .i64 (bat (512/x.1))] from rfl]
      first|rw[show bat (512/x.1)=512/x.1 by unfold bat;omega] |rw[show bat (512/x.1)=2 by unfold bat;omega] |rw[show bat (512/x.1)=32 by unfold bat;omega]
      exact hr2
 case done=>
  rintro D ys W hD hys ⟨⟨v,hv,hrow,_⟩,hW,hC,hB⟩ hK
  have hall:allC waste=ys.map (fun x=>classOf waste x.1):=by unfold allC;rw[<-hys,List.map_map];rfl
  have hlen:ys.length=(allC waste).length:=by rw[hall,List.length_map]
  have hle:=allC_length waste
  have hsm:∀j,j<(allC waste).length->(cAt (allC waste) j).small/\2<=(cAt (allC waste) j).b/\(cAt (allC waste) j).b<=32:=by
   intro j hj
   rw[hall,List.length_map] at hj
   have e:cAt (allC waste) j=classOf waste (ys[j]).1:=by rw[hall];simp[cAt,List.getD_eq_getElem?_getD,List.getElem?_map,List.getElem?_eq_getElem hj]
   rw[e]
   have h1:=(ys[j]).2
   have h2:=pgs_range (ys[j]).1 waste
   refine⟨⟨h1.1,h1.2,h2.1,h2.2⟩,?_⟩
   show 2<=bat _/\bat _<=32
   unfold bat
   omega
  rw[hlen,<-hall] at hrow
  have HM:Hid (makeC waste=outTo (allC waste) (allC waste).length):=rfl
  clear hall hlen hys
  generalize allC waste=l at *
  obtain⟨A,c,rfl,hr,hA⟩:=own_reads rfl hrow (fun j hj=>by obtain⟨⟨h1,h2,h3,h4⟩,h5,h6⟩:=hsm j hj;unfold I64;omega)
  have hvc:=hv.cell
  obtain⟨N,hN⟩:∃N,N=l.length:=⟨_,rfl⟩
  rw[<-hN] at hr hrow hvc hsm hle HM
  have HS:=Lib.hid hsm
  have HR:=Lib.hid hr
  have HN:=Lib.hid hN
  have HK:=Lib.hid hK
  clear hsm hr hN hK
  gi_wp2
  refine wpIn_wide.2 ?_
  go_loopw[7,34] (fun u t wr=>∃k:Nat,k<=N/\t=.int .i64 k/\Only [] W wr/\wr.ownsRow W.heap.size 101 3 u (outTo l k).length (cellsC (outTo l k))) (fun _ t _=>N-(intOf t).toNat)
  case atStart=>exact⟨0,Nat.zero_le _,rfl,Only.refl _ _,World.ownsRow_nil _ _ _ _⟩
  case round=>
   obtain⟨k,hk,rfl,ho,hown⟩:=hrel
   by_cases hlt:k<N
   ·obtain⟨ad,rfl,c1,c2,c3⟩:=(HR.out.still ho).at_ hlt
    have hvk:=(ho.cell (p:=⟨w.heap.size+1,0,none⟩) hv.lt (by simp)).trans hvc
    have hxs:=HS.out k hlt
    have HP:k+1<N->(wr.cell? (ad.add ((k+1)*3))=some (.int .i64 (cAt l (k+1)).s)/\wr.cell? ⟨(ad.add ((k+1)*3)).block,(ad.add ((k+1)*3)).off+1,none⟩=some (.int .i64 (cAt l (k+1)).p)/\wr.cell? ⟨(ad.add ((k+1)*3)).block,(ad.add ((k+1)*3)).off+2,none⟩=some (.int .i64 (cAt l (k+1)).b)):=fun h0=>by
     obtain⟨_,e,p⟩:=(HR.out.still ho).at_ (k:=k+1) (by omega)
     injection e with e
     subst e
     exact p
    have hole:=outTo_le l k
    have HK1:=Lib.hid (outTo_keep l k)
    have HK0:=Lib.hid (outTo_drop l k)
    have HKA:=Lib.hid (keepAt_eq l k)
    rw[<-HN.out] at HKA
    generalize hxg:cAt l k=x at c1 c2 c3 hxs HK1 HKA
    generalize hyg:cAt l (k+1)=y at HP HKA
    have CX:=Lib.hid (fun W=>objects_any W x hxs.1)
    obtain⟨xs,xp,xb⟩:=x
    unfold Cl.val at CX
    dsimp only at c1 c2 c3 CX HK1
    go_wp2_with fail
    have b:=Blk.new wr 101 #[.int .i64 xs,.int .i64 xp,.int .i64 xb]
    have ho1:=(Only.refl [] wr).alloc (.cells #[.int .i64 xs,.int .i64 xp,.int .i64 xb] 101)
    have HP1:=fun (h0:k+1<N)=>And.intro (cell_after ((ho1.cell (World.block_lt_of_cell? _ _ (HP h0).1) (by simp)).trans (HP h0).1)) (And.intro (cell_after ((ho1.cell (World.block_lt_of_cell? _ _ (HP h0).2.1) (by simp)).trans (HP h0).2.1)) (cell_after ((ho1.cell (World.block_lt_of_cell? _ _ (HP h0).2.2) (by simp)).trans (HP h0).2.2)))
    have gv:=cell_after ((ho1.cell (World.block_lt_of_cell? _ _ hvk) (by simp)).trans hvk)
    clear c1 c2 c3 HP hvk
    generalize wr.alloc (.cells #[.int .i64 xs,.int .i64 xp,.int .i64 xb] 101)=w1 at *
    have g0:=cell_after (b.cell_ 0 rfl)
    have g1:=cell_after (b.cell_ 1 rfl)
    have g2:=cell_after (b.cell_ 2 rfl)
    by_cases h1:k+1<N
    ·obtain⟨y0,y1,y2⟩:=HP1 h1
     have hys:=HS.out (k+1) h1
     rw[hyg] at hys
     have CY:=Lib.hid (fun W=>objects_any W y hys.1)
     obtain⟨ys',yp,yb⟩:=y
     unfold Cl.val at CY
     dsimp only at y0 y1 y2 CY
     clear HP1 hyg hxg
     have d1:decide ((k:Int)+1<(N:Int))=true:=decide_eq_true (by omega)
     by_cases h2:yp=xp
     ·have d2:(yp==xp)=true:=beq_iff_eq.2 h2
      by_cases h3:Cl.n ⟨ys',yp,yb⟩=Cl.n ⟨xs,xp,xb⟩
      ·have d3:(Cl.n ⟨ys',yp,yb⟩==Cl.n ⟨xs,xp,xb⟩)=true:=beq_iff_eq.2 h3
       have HO:=Lib.hid (HK0.out (by rw[HKA.out,decide_eq_true h1];simp[d2,d3]))
       clear h2 h3 HKA HK0 HK1
       generalize Cl.n ⟨ys',yp,yb⟩=yn at *
       generalize Cl.n ⟨xs,xp,xb⟩=xn at *
       refine wp_region_grew (by kernel_rfl) (by kernel_rfl) ?_
       repeat (go_big_quiet_step (first|(go_at_call 44;with_reducible exact Grew.g (CY.out _))|(go_at_call 44;with_reducible exact Grew.g (CX.out _))))
       refine wpQuiet_nil ?_
       rintro w2 ⟨⟨_,ho2⟩,rfl⟩
       have hown2:=own_only hown (ho1.trans ho2) (by simp)
       have hoW:=(ho.trans ho1).trans ho2
       go_wp2
       go_roundw
       case rel=>exact⟨k+1,by omega,by go_num,hoW,by rw[HO.out];exact hown2⟩
       case measure=>simp[intOf];omega
      ·have d3:(Cl.n ⟨ys',yp,yb⟩==Cl.n ⟨xs,xp,xb⟩)=false:=beq_eq_false_iff_ne.2 h3
       have HO:=Lib.hid (HK1.out (by rw[HKA.out,decide_eq_true h1];simp[d2,d3]))
       clear h2 h3 HKA HK0 HK1
       generalize Cl.n ⟨ys',yp,yb⟩=yn at *
       generalize Cl.n ⟨xs,xp,xb⟩=xn at *
       refine wp_region_grew (by kernel_rfl) (by kernel_rfl) ?_
       repeat (go_big_quiet_step (first|(go_at_call 44;with_reducible exact Grew.g (CY.out _))|(go_at_call 44;with_reducible exact Grew.g (CX.out _))))
       refine wpQuiet_nil ?_
       rintro w2 ⟨⟨_,ho2⟩,rfl⟩
       have b2:=b.only ho2 (by simp)
       have b20:=b2.cell_ 0 rfl
       have b21:=b2.cell_ 1 rfl
       have b22:=b2.cell_ 2 rfl
       have hown2:=own_only hown (ho1.trans ho2) (by simp)
       have hoW:=(ho.trans ho1).trans ho2
       have hszW:=hoW.size
       clear hown
       go_wp2_with (first|(at_builtin;refine wpList_append_own _ rfl _ _ 56 rfl W.heap.size 101 i0 (.agg #[.int .i64 0,.int .i64 0,.int .i64 0]) 3 24 Tryz.underlying56 hi hz0 hz1 hz2 rfl (by decide) _ _ _ rfl (hown2.alloc _) ⟨w2.heap.size,0,none⟩ 1 1 [.int .i64 xs,.int .i64 xp,.int .i64 xb] rfl rfl (World.news_of_block (World.alloc_heap_new w2 _)) (by simp[Value.oneCell']) (by unfold maxLen;omega) (by omega) (by simp;omega) ?_;intro v1 w3 hown3 hg3 _))
       go_roundw
       case rel=>exact⟨k+1,by omega,by go_num,(hoW.alloc _).grown hg3 (fun b hb=>.inr (own_base hown2 b hb)),by rw[HO.out,cellsC_append,List.length_append];exact hown3⟩
       case measure=>simp[intOf];omega
     ·have d2:(yp==xp)=false:=beq_eq_false_iff_ne.2 h2
      have HO:=Lib.hid (HK1.out (by rw[HKA.out,decide_eq_true h1];simp[d2]))
      clear h2 HKA HK0 HK1
      refine wp_region_grew (by kernel_rfl) (by kernel_rfl) ?_
      repeat (go_big_quiet_step (fail))
      refine wpQuiet_nil ?_
      rintro w2 ⟨⟨_,ho2⟩,rfl⟩
      have b2:=b.only ho2 (by simp)
      have b20:=b2.cell_ 0 rfl
      have b21:=b2.cell_ 1 rfl
      have b22:=b2.cell_ 2 rfl
      have hown2:=own_only hown (ho1.trans ho2) (by simp)
      have hoW:=(ho.trans ho1).trans ho2
      have hszW:=hoW.size
      clear hown
      go_wp2_with (first|(at_builtin;refine wpList_append_own _ rfl _ _ 56 rfl W.heap.size 101 i0 (.agg #[.int .i64 0,.int .i64 0,.int .i64 0]) 3 24 Tryz.underlying56 hi hz0 hz1 hz2 rfl (by decide) _ _ _ rfl (hown2.alloc _) ⟨w2.heap.size,0,none⟩ 1 1 [.int .i64 xs,.int .i64 xp,.int .i64 xb] rfl rfl (World.news_of_block (World.alloc_heap_new w2 _)) (by simp[Value.oneCell']) (by unfold maxLen;omega) (by omega) (by simp;omega) ?_;intro v1 w3 hown3 hg3 _))
      go_roundw
      case rel=>exact⟨k+1,by omega,by go_num,(hoW.alloc _).grown hg3 (fun b hb=>.inr (own_base hown2 b hb)),by rw[HO.out,cellsC_append,List.length_append];exact hown3⟩
      case measure=>simp[intOf];omega
    ·have d1:decide ((k:Int)+1<(N:Int))=false:=decide_eq_false (by omega)
     have HO:=Lib.hid (HK1.out (by rw[HKA.out,decide_eq_false h1];rfl))
     clear HKA HK0 HK1 HP1 hyg hxg
     refine wp_region_grew (by kernel_rfl) (by kernel_rfl) ?_
     repeat (go_big_quiet_step (fail))
     refine wpQuiet_nil ?_
     rintro w2 ⟨⟨_,ho2⟩,rfl⟩
     have b2:=b.only ho2 (by simp)
     have b20:=b2.cell_ 0 rfl
     have b21:=b2.cell_ 1 rfl
     have b22:=b2.cell_ 2 rfl
     have hown2:=own_only hown (ho1.trans ho2) (by simp)
     have hoW:=(ho.trans ho1).trans ho2
     have hszW:=hoW.size
     clear hown
     go_wp2_with (first|(at_builtin;refine wpList_append_own _ rfl _ _ 56 rfl W.heap.size 101 i0 (.agg #[.int .i64 0,.int .i64 0,.int .i64 0]) 3 24 Tryz.underlying56 hi hz0 hz1 hz2 rfl (by decide) _ _ _ rfl (hown2.alloc _) ⟨w2.heap.size,0,none⟩ 1 1 [.int .i64 xs,.int .i64 xp,.int .i64 xb] rfl rfl (World.news_of_block (World.alloc_heap_new w2 _)) (by simp[Value.oneCell']) (by unfold maxLen;omega) (by omega) (by simp;omega) ?_;intro v1 w3 hown3 hg3 _))
     go_roundw
     case rel=>exact⟨k+1,by omega,by go_num,(hoW.alloc _).grown hg3 (fun b hb=>.inr (own_base hown2 b hb)),by rw[HO.out,cellsC_append,List.length_append];exact hown3⟩
     case measure=>simp[intOf];omega
   ·have e:k=N:=by omega
    have hK:=HK.out
    have hDl:=(Array.getElem?_eq_some_iff.1 hK).1
    have hK2:=(ho.block D hDl (by simp)).trans hK
    subst e
    go_wp2_with fail
    gi_wp2
    have hBs:=hB.size
    refine⟨by simp,.inl ⟨_,_,rfl,run_takeDeferred hK2,?_⟩⟩
    refine⟨_,results_tmp2 rfl _ _ _,_,rfl,?_,?_⟩
    ·rw[HM.out]
     exact ownsRow_putObj (own_mono hown hBs) _ hK2 rfl
    ·exact(hB.trans (ho.below.mono hBs)).trans (belowK_b (w:=w) (Nat.le_refl _) wr D _ _ (by simp at hD;omega) hK2 rfl rfl)
 case stop=>
  rintro D c pre W _ _ h _
  exact h.elim
end Go.Proofs.YtcidjimefnhacaaGreatDoor.Z
namespace Go.Proofs.YtcidjimefnhacaaGreatDoor.Z
open Go.RowKit
end Go.Proofs.YtcidjimefnhacaaGreatDoor.Z
