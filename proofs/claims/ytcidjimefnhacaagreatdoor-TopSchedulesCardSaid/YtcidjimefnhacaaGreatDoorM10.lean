/- TopSchedules, a part of the proof: LF, LG, LH. -/
import Derived.Test.YtcidjimefnhacaaGreatDoorM09
import Derived.Shelf.Spec.SlicesInsert
import Derived.Shelf.RegionOpenPlain
import Derived.Lib.AppendZerosOnto
import Derived.Lib.Overlaps
import Derived.Laws.CopyRow
import Derived.Laws.IdiomCopy
set_option linter.unusedVariables false
set_option linter.unusedSimpArgs false
namespace Go.Proofs.YtcidjimefnhacaaGreatDoor
open Go.RowKit
theorem info_ent:(Tryz.prog.info? 257).map (fun i=>(i.zero,i.size,i.bytes))=some (some (.agg #[.int .i64 0,.int .i64 0,.pointer none]),3,24):=by kernel_rfl
theorem run_copy3 (W:World) (ty:TypeId) (g o dl dc:Nat) (sa:Addr) (sl sc:Nat) (cur:Array Value) (t:TypeId) (cs:List Value) (k:Nat) (hk:Nat.min sl dl=k) (hn:cs.length=k*3) (hg:W.heap[g]? =some (.cells cur t (0,0)))
 (hsrc:∀j v,cs[j]? =some v->W.cell? (sa.add j)=some v) (hfit:o+cs.length<=cur.size) (h1:∀v∈cs,v.oneCell'=true):
 (Builtin.copy_ #[178,178] ty #[.slice (some ⟨g,o,none⟩) dl dc,.slice (some sa) sl sc]).run Tryz.prog W=.ok (goInt k) (W.setRow g (cur.toList.take o++cs++cur.toList.drop (o+cs.length)).toArray):=by
 obtain⟨i,hi,hz,hs,hb⟩:=info_parts info_ent
 have hl:=run_loadCells_list (P:=Tryz.prog) W sa cs hsrc
 have hst:=run_storeCells_at Tryz.prog g o t cs 0 cur W hg (by simpa using hfit) h1
 rw[hn] at hl
 simp only[Nat.add_zero] at hst
 simp[Builtin.copy_,run_underlying Tryz.underlying178,Builtin.lenOf,Builtin.firstCells,sizeOf,typeInfo,hi,hs,hk,hl,hst]
theorem splice_at (cur cs:List Value) (o:Nat) (h:o+cs.length<=cur.length) (j:Nat):(cur.take o++cs++cur.drop (o+cs.length))[j]? =if o<=j/\j<o+cs.length then cs[j-o]? else cur[j]? :=by
 have h1:(cur.take o).length=o:=by rw[List.length_take];omega
 by_cases h2:j<o
 ·rw[List.append_assoc,List.getElem?_append_left (by omega),List.getElem?_take,if_pos h2,if_neg (by omega)]
 ·by_cases h3:j<o+cs.length
  ·rw[List.getElem?_append_left (by rw[List.length_append];omega),List.getElem?_append_right (by omega),h1,if_pos (by omega)]
  ·rw[List.getElem?_append_right (by rw[List.length_append];omega),List.length_append,h1,List.getElem?_drop,if_neg (by omega)]
   congr 1
   omega
theorem only_setRow {l:List Nat} {a W:World} {g:Nat} {cs:Array Value} (h:Only l a W) (hg:g∈l\/a.heap.size<=g):Only l a (W.setRow g cs):=by
 refine h.then_ (l':=[g]) ⟨rfl,rfl,rfl,by simp,fun i hi hn=>setRow_other W g i _ (by simpa using hn)⟩ (fun b hb=>?_)
 simp at hb
 subst hb
 exact hg
set_option maxRecDepth 100000 in
set_option maxHeartbeats 2000000 in
theorem linsert_end (w:World) (base:Nat) (v:Value) (n:Nat) (xs:List Value) (hown:w.ownsRow base 257 3 v n xs) (vb:Nat) (x y z:Value) (hvb:Blk w vb 257 #[x,y,z]) (h1:x.oneCell'=true/\y.oneCell'=true/\z.oneCell'=true) (hn:n<=1000000) (hbase:base<=w.heap.size):
 Calls Tryz.prog 139 #[v,.int .i64 n,.slice (some ⟨vb,0,none⟩) 1 1] w fun e w'=>
  ∃v',e=.returned v'/\w'.ownsRow base 257 3 v' (n+1) (xs++[x,y,z])/\Only v.ownBlock.toList w w'/\(v'.ownBlock=v.ownBlock\/v'.ownBlock=some w.heap.size):=by
 obtain⟨ad,cp,rfl,_⟩:=own_slice hown
 obtain⟨i0,hi,hz0,hz1,hz2⟩:=info_parts info_ent
 by_cases hc:cp=n
 ·subst hc
  go_enter Tryz.func139,Tryz.ntmps139
  go_wp2_with (at_builtin;refine wpList_append_own_at _ rfl _ _ 178 rfl base 257 i0 (.agg #[.int .i64 0,.int .i64 0,.pointer none]) 3 24 Tryz.underlying178 hi hz0 hz1 hz2 rfl (by decide) _ _ _ rfl hown ⟨vb,0,none⟩ 1 1 [x,y,z] rfl rfl (World.news_of_block hvb) (by simp;exact h1) (by unfold maxLen;omega) (by omega) hbase ?_;intro v1 w1 hown1 hg1 _ hat1)
  go_ret
  exact⟨v1,rfl,hown1,(Only.refl _ w).grown hg1 (fun k hk=>.inl (Option.mem_toList.2 hk)),hat1⟩
 ·go_enter Tryz.func139,Tryz.ntmps139
  go_wp2_with (at_builtin;refine wpList_append_own_at _ rfl _ _ 178 rfl base 257 i0 (.agg #[.int .i64 0,.int .i64 0,.pointer none]) 3 24 Tryz.underlying178 hi hz0 hz1 hz2 rfl (by decide) _ _ _ rfl hown ⟨vb,0,none⟩ 1 1 [x,y,z] rfl rfl (World.news_of_block hvb) (by simp;exact h1) (by unfold maxLen;omega) (by omega) hbase ?_;intro v1 w1 hown1 hg1 _ hat1)
  go_ret
  exact⟨v1,rfl,hown1,(Only.refl _ w).grown hg1 (fun k hk=>.inl (Option.mem_toList.2 hk)),hat1⟩
theorem insert_cells (cur xs:List Value) (a:List Value) (i n:Nat) (hi:i<=n) (ha:a.length=3) (hx:xs.length=n*3) (hc:(n+1)*3<=cur.length) (h:∀j,j<(n+1)*3->cur[j]? =if j<i*3 then xs[j]? else if j<i*3+3 then a[j-i*3]? else xs[j-3]?):
 cur.take ((n+1)*3)=xs.take (i*3)++a++xs.drop (i*3):=by
 have h1:(xs.take (i*3)).length=i*3:=by rw[List.length_take];omega
 apply List.ext_getElem?
 intro j
 rw[List.getElem?_take]
 by_cases hj:j<(n+1)*3
 ·rw[if_pos hj,h j hj]
  by_cases h2:j<i*3
  ·rw[if_pos h2,List.append_assoc,List.getElem?_append_left (by omega),List.getElem?_take,if_pos h2]
  ·rw[if_neg h2]
   by_cases h3:j<i*3+3
   ·rw[if_pos h3,List.getElem?_append_left (by rw[List.length_append];omega),List.getElem?_append_right (by omega),h1]
   ·rw[if_neg h3,List.getElem?_append_right (by rw[List.length_append];omega),List.length_append,h1,List.getElem?_drop]
    congr 1
    omega
 ·rw[if_neg hj,List.getElem?_eq_none]
  rw[List.length_append,List.length_append,h1,List.length_drop]
  omega
set_option maxRecDepth 100000 in
set_option maxHeartbeats 4000000 in
theorem linsert_grow (w:World) (base g n cp i:Nat) (xs:List Value) (cur:Array Value) (hB:Blk w g 257 cur) (hcur:cur.size=cp*3) (hxs:cur.toList.take (n*3)=xs) (hx1:∀v∈xs,v.oneCell'=true) (hin:i<n) (hnc:n<=cp) (hfull:cp<n+1)
 (vb:Nat) (x y z:Value) (hvb:Blk w vb 257 #[x,y,z]) (h1:x.oneCell'=true/\y.oneCell'=true/\z.oneCell'=true) (hn:n<=1000000) (hbase:base<=w.heap.size):
 Calls Tryz.prog 139 #[.slice (some ⟨g,0,none⟩) n cp,.int .i64 i,.slice (some ⟨vb,0,none⟩) 1 1] w fun e w'=>
  ∃v',e=.returned v'/\w'.ownsRow base 257 3 v' (n+1) (xs.take (i*3)++[x,y,z]++xs.drop (i*3))/\Only [] w w'/\v'.ownBlock=some w.heap.size:=by
 obtain⟨i0,hi,hz0,hz1,hz2⟩:=info_parts info_ent
 have hxl:xs.length=n*3:=by rw[<-hxs,List.length_take,Array.length_toList];omega
 have hd2:¬((i:Int)=(n:Int)):=by omega
 have hd3:(cp:Int)<(n:Int)+1:=by omega
 have hcell:∀j v,xs[j]? =some v->w.cell? ⟨g,j,none⟩=some v:=fun j v hj=>by
  have hj':j<n*3:=by
   rcases Nat.lt_or_ge j (n*3) with h|h
   ·exact h
   ·rw[List.getElem?_eq_none (by omega)] at hj;cases hj
  rw[<-hxs,List.getElem?_take,if_pos hj',Array.getElem?_toList] at hj
  exact hB.cell_ j hj
 have hold:(Builtin.firstCells i0.size i (.slice (some ⟨g,0,none⟩) i cp)).run Tryz.prog w.drew=.ok (xs.take (i*3)).toArray w.drew:=by
  rw[hz1]
  exact run_firstCells_some w.drew 3 i ⟨g,0,none⟩ i cp (xs.take (i*3)) (by rw[List.length_take];omega) (fun j v hj=>by
   rw[Addr.add_lit,Nat.zero_add]
   rw[List.getElem?_take] at hj
   split at hj
   ·exact hcell j v hj
   ·cases hj)
 have hkk:(n:Int)+1-(i:Int)=((n+1-i:Nat):Int):=by omega
 have hik:i+(n+1-i)=n+1:=by omega
 have hrz:∀ty,(Builtin.append_ #[178,3] ty #[.slice (some ⟨g,0,none⟩) i cp,.int .i64 ((n:Int)+1-(i:Int))]).run Tryz.prog w=
  .ok (.slice (some ⟨w.heap.size,0,none⟩) (n+1) (grownCap w (n+1) cp 257)) (w.drew.alloc (.cells ((xs.take (i*3)).toArray++Builtin.zeroCells (Value.agg #[.int .i64 0,.int .i64 0,.pointer none]).cells (n+1-i)++Builtin.zeroCells (Value.agg #[.int .i64 0,.int .i64 0,.pointer none]).cells (grownCap w (n+1) cp 257-(n+1))) 257)):=fun ty=>by
  have h:=Lib.run_append_grow_zeros w 178 3 ty 257 i0 _ .i64 .i64 Tryz.underlying178 Tryz.underlying3 hi hz0 (some ⟨g,0,none⟩) i cp (xs.take (i*3)) hold (n+1-i) (by omega) (by omega) (by omega) (by omega) (by rw[hz2];omega) (by rw[hz2,hik];exact growslice_fits hfull (by omega))
  rw[hik] at h
  rw[hkk]
  exact h
 obtain⟨G,hG⟩:∃G,G=grownCap w (n+1) cp 257:=⟨_,rfl⟩
 have hGn:n+1<=G:=by rw[hG];exact grownCap_ge w _ _ _
 have hGm:G<=maxLen:=by rw[hG];exact grownCap_le_maxLen w (n+1) cp _ (by unfold maxLen;omega)
 obtain⟨ROW,hROW⟩:∃ROW:Array Value,ROW=(xs.take (i*3)).toArray++Builtin.zeroCells (Value.agg #[.int .i64 0,.int .i64 0,.pointer none]).cells (n+1-i)++Builtin.zeroCells (Value.agg #[.int .i64 0,.int .i64 0,.pointer none]).cells (G-(n+1)):=⟨_,rfl⟩
 rw[<-hG] at hrz
 rw[<-hROW] at hrz
 have hRs:ROW.size=G*3:=by
  rw[hROW]
  simp[Builtin.zeroCells,Value.cells]
  omega
 have hRt:∀j,j<i*3->ROW.toList[j]? =xs[j]? :=fun j hj=>by
  rw[hROW]
  simp only[Array.toList_append,List.toList_toArray,List.append_assoc]
  rw[List.getElem?_append_left (by rw[List.length_take];omega),List.getElem?_take,if_pos hj]
 have hb:Blk (w.alloc (.cells ROW 257)) w.heap.size 257 ROW:=Blk.new w _ ROW
 have hglt:=hB.lt
 have hvlt:=hvb.lt
 obtain⟨W1,hW1⟩:∃W1,W1=w.alloc (.cells ROW 257):=⟨_,rfl⟩
 have hO1:Only [] w W1:=by rw[hW1];exact(Only.refl [] w).alloc _
 rw[<-hW1] at hb
 obtain⟨R2,hR2⟩:∃R2:Array Value,R2=(ROW.toList.take (i*3)++[x,y,z]++ROW.toList.drop (i*3+ [x,y,z].length)).toArray:=⟨_,rfl⟩
 have hR2s:R2.size=G*3:=by rw[hR2];simp;omega
 have hcpA:∀(W:World),W.heap=W1.heap->∀ty dc,(Builtin.copy_ #[178,178] ty #[.slice (some ⟨w.heap.size,i*3,none⟩) (n+1-i) dc,.slice (some ⟨vb,0,none⟩) 1 1]).run Tryz.prog W=.ok (goInt 1) (W.setRow w.heap.size R2):=fun W hW ty dc=>by
  rw[hR2]
  refine run_copy3 W ty w.heap.size (i*3) (n+1-i) dc ⟨vb,0,none⟩ 1 1 ROW _ [x,y,z] 1 (by simp only[Nat.min_def];split<;>omega) rfl (by rw[hW];exact hb) (fun j v hj=>?_) (by simp;omega) (by simp;exact h1)
  have:=World.news_of_block (hvb.only hO1 (by simp)) j v hj
  rwa[show W.cell? ((⟨vb,0,none⟩:Addr).add j)=W1.cell? ((⟨vb,0,none⟩:Addr).add j) from World.cell?_of_block (by rw[hW])]
 obtain⟨W2,hW2⟩:∃W2,W2=W1.setRow w.heap.size R2:=⟨_,rfl⟩
 have hO2:Only [] w W2:=by rw[hW2];exact only_setRow hO1 (.inr (Nat.le_refl _))
 have hb2:Blk W2 w.heap.size 257 R2:=by rw[hW2];exact setRow_heap W1 w.heap.size ROW R2 _ _ hb
 obtain⟨R3,hR3⟩:∃R3:Array Value,R3=(R2.toList.take ((i+1)*3)++xs.drop (i*3)++R2.toList.drop ((i+1)*3+(xs.drop (i*3)).length)).toArray:=⟨_,rfl⟩
 have hdl:(xs.drop (i*3)).length=(n-i)*3:=by rw[List.length_drop];omega
 have hR3s:R3.size=G*3:=by rw[hR3];simp;omega
 have hcpB:∀(W:World),W.heap=W2.heap->∀ty dc sc,(Builtin.copy_ #[178,178] ty #[.slice (some ⟨w.heap.size,(i+1)*3,none⟩) (n+1-(i+1)) dc,.slice (some ⟨g,i*3,none⟩) (n-i) sc]).run Tryz.prog W=.ok (goInt (n-i:Nat)) (W.setRow w.heap.size R3):=fun W hW ty dc sc=>by
  rw[hR3]
  refine run_copy3 W ty w.heap.size ((i+1)*3) (n+1-(i+1)) dc ⟨g,i*3,none⟩ (n-i) sc R2 _ (xs.drop (i*3)) (n-i) (by simp only[Nat.min_def];split<;>omega) hdl (by rw[hW];exact hb2) (fun j v hj=>?_) (by rw[hdl];omega) (fun v hv=>hx1 v (List.mem_of_mem_drop hv))
  rw[Addr.add_lit,show W.cell? ⟨g,i*3+j,none⟩=W2.cell? ⟨g,i*3+j,none⟩ from World.cell?_of_block (by rw[hW])]
  rw[List.getElem?_drop] at hj
  exact(hO2.cell (p:=⟨g,i*3+j,none⟩) hglt (by simp)).trans (hcell _ v hj)
 have hgi:¬(cp=i):=by omega
 have hGi:¬(G=i):=by omega
 have hGim:¬(G=i+1):=by omega
 have mixed:Tryz.prog.follows .mixedOrders=true:=by kernel_rfl
 have hw1:IntKind.i64.wrap ((i:Int)+1)=(i:Int)+1:=by rw[IntKind.wrap_i64];omega
 have hb1:(0:Int)<=(i:Int)+1:=by omega
 have hb3:(i:Int)+1<=(n:Int)+1:=by omega
 have hb4:(i:Int)<=(n:Int):=by omega
 have htn:((i:Int)+1).toNat=i+1:=by omega
 have hin':i<=n:=by omega
 have HROW:=Lib.hid hROW
 have HW1:=Lib.hid hW1
 have HR2:=Lib.hid hR2
 have HO1:=Lib.hid hO1
 have HRT:=Lib.hid hRt
 have HB1:=Lib.hid hb
 have HCELL:=Lib.hid hcell
 have HG:=Lib.hid hG
 have HW2:=Lib.hid hW2
 have HR3:=Lib.hid hR3
 have HO2:=Lib.hid hO2
 have HB2:=Lib.hid hb2
 have HDL:=Lib.hid hdl
 clear hkk hik hold hROW hG hRt hR2 hb hO1 hcell hW1 hW2 hR3 hO2 hb2 hdl
 go_enter Tryz.func139,Tryz.ntmps139
 go_wp2_with (first
  |(at_builtin;refine Lib.wpList_append_run _ rfl _ _ _ _ rfl _ _ rfl rfl _ _ (hrz _) ?_)
  |(refine wpList_copy_runI _ rfl _ _ 178 178 rfl _ _ rfl rfl (hcpA _ (by rw[HW1.out]<;>rfl) _ _) ?_))
 go_region_law_o (refine step_copy_runI rfl _ _ 178 178 rfl (.slice (some ⟨w.heap.size,(i+1)*3,none⟩) (n+1-(i+1)) (G-(i+1))) (.slice (some ⟨g,i*3,none⟩) (n-i) (cp-i)) (by simp[Act.eval,Act.put]) (by simp[Act.eval,Act.put]) (hcpB _ (by rw[HW2.out,HW1.out]<;>rfl) 3 (G-(i+1)) (cp-i)) ?_)
 go_wp2
 go_ret
 have hbX:((w.alloc (Obj.cells ROW 257)).drew.setRow w.heap.size R2).drew.heap[w.heap.size]? =some (.cells R2 257 (0,0)):=by
  have:=HB2.out
  rw[HW2.out,HW1.out] at this
  exact this
 refine⟨_,rfl,⟨by simp;omega,.inr ⟨w.heap.size,G,R3,rfl,hbase,setRow_heap _ _ R2 R3 _ _ hbX,hGn,hGm,hR3s,?_⟩⟩,only_setRow (only_setRow (((Only.refl [] w).alloc _).drew) (.inr (Nat.le_refl _))).drew (.inr (Nat.le_refl _)),rfl⟩
 refine insert_cells R3.toList xs [x,y,z] i n (by omega) rfl hxl (by simp;omega) (fun j hj=>?_)
 rw[HR3.out]
 simp only[List.toList_toArray]
 rw[splice_at _ _ _ (by rw[HDL.out,Array.length_toList];omega),HDL.out]
 by_cases h2:(i+1)*3<=j
 ·rw[if_pos (by omega),if_neg (by omega),if_neg (by omega),List.getElem?_drop]
  congr 1
  omega
 ·rw[if_neg (by omega),HR2.out]
  simp only[List.toList_toArray]
  rw[splice_at _ _ _ (by rw[Array.length_toList];simp;omega)]
  by_cases h3:i*3<=j
  ·rw[if_pos ⟨h3,by simp;omega⟩,if_neg (by omega),if_pos (by omega)]
  ·rw[if_neg (by omega),if_pos (by omega)]
   exact HRT.out j (by omega)
set_option maxRecDepth 100000 in
set_option maxHeartbeats 4000000 in
theorem linsert_room (w:World) (base g n cp i:Nat) (xs:List Value) (cur:Array Value) (hB:Blk w g 257 cur) (hcur:cur.size=cp*3) (hxs:cur.toList.take (n*3)=xs) (hx1:∀v∈xs,v.oneCell'=true) (hin:i<n) (hroom:n+1<=cp) (hcm:cp<=maxLen) (hbg:base<=g)
 (vb:Nat) (x y z:Value) (hvb:Blk w vb 257 #[x,y,z]) (hne:vb≠g) (h1:x.oneCell'=true/\y.oneCell'=true/\z.oneCell'=true) (hn:n<=1000000):
 Calls Tryz.prog 139 #[.slice (some ⟨g,0,none⟩) n cp,.int .i64 i,.slice (some ⟨vb,0,none⟩) 1 1] w fun e w'=>
  ∃v',e=.returned v'/\w'.ownsRow base 257 3 v' (n+1) (xs.take (i*3)++[x,y,z]++xs.drop (i*3))/\Only [g] w w'/\v'.ownBlock=some g:=by
 obtain⟨i0,hi,hz0,hz1,hz2⟩:=info_parts info_ent
 have hxl:xs.length=n*3:=by rw[<-hxs,List.length_take,Array.length_toList];omega
 have hd2:¬((i:Int)=(n:Int)):=by omega
 have hd3:¬((cp:Int)<(n:Int)+1):=by omega
 have hxat:∀j,j<n*3->cur.toList[j]? =xs[j]? :=fun j hj=>by rw[<-hxs,List.getElem?_take,if_pos hj]
 have hcell:∀j v,xs[j]? =some v->w.cell? ⟨g,j,none⟩=some v:=fun j v hj=>by
  have hj':j<n*3:=by
   rcases Nat.lt_or_ge j (n*3) with h|h
   ·exact h
   ·rw[List.getElem?_eq_none (by omega)] at hj;cases hj
  rw[<-hxs,List.getElem?_take,if_pos hj',Array.getElem?_toList] at hj
  exact hB.cell_ j hj
 have hsz:∀w,(Go.sizeOf 257).run Tryz.prog w=.ok 3 w:=fun w=>by simp[sizeOf,typeInfo,hi,hz1]
 have hov:∀lb cb,(callFunc 165 #[.slice (some ⟨vb,0,none⟩) 1 1,.slice (some ⟨g,(i+1)*3,none⟩) lb cb]).run Tryz.prog w=.ok (.value (.bool false)) w:=fun lb cb=>by
  rw[run_callFunc_extern Tryz.func165 (by kernel_rfl) (by kernel_rfl) (by kernel_rfl) (e:=Extern.SlicesOverlaps.overlaps #[178,178] #[4]) (by kernel_rfl),
   Lib.run_overlaps_apart w 178 4 257 Tryz.underlying178 3 hsz ⟨vb,0,none⟩ ⟨g,(i+1)*3,none⟩ 1 1 lb cb hne 257 257 3 cur.size (by have:=hvb;unfold Blk at this;simp[World.shape?,this]) (by have:=hB;unfold Blk at this;simp[World.shape?,this]) (by omega) (hvb.frozen 0) (hvb.frozen 3)]
  rfl
 have hdl:(xs.drop (i*3)).length=(n-i)*3:=by rw[List.length_drop];omega
 obtain⟨R2,hR2⟩:∃R2:Array Value,R2=(cur.toList.take ((i+1)*3)++xs.drop (i*3)++cur.toList.drop ((i+1)*3+(xs.drop (i*3)).length)).toArray:=⟨_,rfl⟩
 have hR2s:R2.size=cp*3:=by rw[hR2];simp;omega
 obtain⟨R3,hR3⟩:∃R3:Array Value,R3=(R2.toList.take (i*3)++[x,y,z]++R2.toList.drop (i*3+ [x,y,z].length)).toArray:=⟨_,rfl⟩
 have hR3s:R3.size=cp*3:=by rw[hR3];simp;omega
 have hcpA:∀(W:World),W.heap=w.heap->∀ty dc sc,(Builtin.copy_ #[178,178] ty #[.slice (some ⟨g,(i+1)*3,none⟩) (n+1-(i+1)) dc,.slice (some ⟨g,i*3,none⟩) (n+1-i) sc]).run Tryz.prog W=.ok (goInt (n-i:Nat)) (W.setRow g R2):=fun W hW ty dc sc=>by
  rw[hR2]
  refine run_copy3 W ty g ((i+1)*3) (n+1-(i+1)) dc ⟨g,i*3,none⟩ (n+1-i) sc cur _ (xs.drop (i*3)) (n-i) (by simp only[Nat.min_def];split<;>omega) hdl (by rw[hW];exact hB) (fun j v hj=>?_) (by rw[hdl];omega) (fun v hv=>hx1 v (List.mem_of_mem_drop hv))
  rw[Addr.add_lit,show W.cell? ⟨g,i*3+j,none⟩=w.cell? ⟨g,i*3+j,none⟩ from World.cell?_of_block (by rw[hW])]
  rw[List.getElem?_drop] at hj
  exact hcell _ v hj
 obtain⟨W2,hW2⟩:∃W2,W2=w.setRow g R2:=⟨_,rfl⟩
 have hO2:Only [g] w W2:=by rw[hW2];exact only_setRow (Only.refl _ _) (.inl (by simp))
 have hb2:Blk W2 g 257 R2:=by rw[hW2];exact setRow_heap w g cur R2 _ _ hB
 have hvb2:Blk W2 vb 257 #[x,y,z]:=hvb.only hO2 (by simpa using hne)
 have hcpB:∀(W:World),W.heap=W2.heap->∀ty dc,(Builtin.copy_ #[178,178] ty #[.slice (some ⟨g,i*3,none⟩) (n+1-i) dc,.slice (some ⟨vb,0,none⟩) 1 1]).run Tryz.prog W=.ok (goInt 1) (W.setRow g R3):=fun W hW ty dc=>by
  rw[hR3]
  refine run_copy3 W ty g (i*3) (n+1-i) dc ⟨vb,0,none⟩ 1 1 R2 _ [x,y,z] 1 (by simp only[Nat.min_def];split<;>omega) rfl (by rw[hW];exact hb2) (fun j v hj=>?_) (by simp;omega) (by simp;exact h1)
  have:=World.news_of_block hvb2 j v hj
  rwa[show W.cell? ((⟨vb,0,none⟩:Addr).add j)=W2.cell? ((⟨vb,0,none⟩:Addr).add j) from World.cell?_of_block (by rw[hW])]
 have hci:¬(cp=i):=by omega
 have hci1:¬(cp=i+1):=by omega
 have mixed:Tryz.prog.follows .mixedOrders=true:=by kernel_rfl
 have hw1:IntKind.i64.wrap ((i:Int)+1)=(i:Int)+1:=by rw[IntKind.wrap_i64];omega
 have hb1:(0:Int)<=(i:Int)+1:=by omega
 have hb3:(i:Int)+1<=(n:Int)+1:=by omega
 have hb4:(i:Int)<=(n:Int):=by omega
 have hb5:(n:Int)+1<=(cp:Int):=by omega
 have hb6:(i:Int)<=(n:Int)+1:=by omega
 have htn:((i:Int)+1).toNat=i+1:=by omega
 have htn2:((n:Int)+1).toNat=n+1:=by omega
 have hin':i<=n:=by omega
 have HW2:=Lib.hid hW2
 have HR2:=Lib.hid hR2
 have HR3:=Lib.hid hR3
 have HB2:=Lib.hid hb2
 have HDL:=Lib.hid hdl
 have HXAT:=Lib.hid hxat
 clear hR2 hR3 hb2 hO2 hcell hdl hW2 hvb2 hxat
 go_enter Tryz.func139,Tryz.ntmps139
 go_wp2_with (simp only[hov])
 go_region_law_o (refine step_copy_runI rfl _ _ 178 178 rfl (.slice (some ⟨g,(i+1)*3,none⟩) (n+1-(i+1)) (cp-(i+1))) (.slice (some ⟨g,i*3,none⟩) (n+1-i) (cp-i)) (by simp[Act.eval,Act.put]) (by simp[Act.eval,Act.put]) (hcpA w.drew rfl 3 (cp-(i+1)) (cp-i)) ?_)
 go_wp2_with (refine wpList_copy_runI _ rfl _ _ 178 178 rfl _ _ rfl rfl (hcpB _ (by rw[HW2.out]<;>rfl) _ _) ?_)
 go_ret
 have hbX:(w.drew.setRow g R2).heap[g]? =some (.cells R2 257 (0,0)):=setRow_heap _ _ cur R2 _ _ hB
 refine⟨_,rfl,⟨by simp;omega,.inr ⟨g,cp,R3,rfl,hbg,setRow_heap _ _ R2 R3 _ _ hbX,hroom,hcm,hR3s,?_⟩⟩,only_setRow (only_setRow (Only.refl [g] w).drew (.inl (by simp))) (.inl (by simp)),rfl⟩
 refine insert_cells R3.toList xs [x,y,z] i n (by omega) rfl hxl (by simp;omega) (fun j hj=>?_)
 rw[HR3.out]
 simp only[List.toList_toArray]
 rw[splice_at _ _ _ (by rw[Array.length_toList];simp;omega)]
 by_cases h3:i*3<=j/\j<i*3+3
 ·rw[if_pos ⟨h3.1,by simp;omega⟩,if_neg (by omega),if_pos (by omega)]
 ·rw[if_neg (by simp;omega),HR2.out]
  simp only[List.toList_toArray]
  rw[splice_at _ _ _ (by rw[HDL.out,Array.length_toList];omega),HDL.out]
  by_cases h2:(i+1)*3<=j
  ·rw[if_pos (by omega),if_neg (by omega),if_neg (by omega),List.getElem?_drop]
   congr 1
   omega
  ·rw[if_neg (by omega),if_pos (by omega)]
   exact HXAT.out j (by omega)
theorem linsert_any (w:World) (base:Nat) (v:Value) (n i:Nat) (xs:List Value) (hown:w.ownsRow base 257 3 v n xs) (hx1:∀v∈xs,v.oneCell'=true) (hin:i<=n) (vb:Nat) (x y z:Value) (hvb:Blk w vb 257 #[x,y,z]) (hne:v.ownBlock≠some vb)
 (h1:x.oneCell'=true/\y.oneCell'=true/\z.oneCell'=true) (hn:n<=1000000) (hbase:base<=w.heap.size):
 Calls Tryz.prog 139 #[v,.int .i64 i,.slice (some ⟨vb,0,none⟩) 1 1] w fun e w'=>
  ∃v',e=.returned v'/\w'.ownsRow base 257 3 v' (n+1) (xs.take (i*3)++[x,y,z]++xs.drop (i*3))/\Only v.ownBlock.toList w w'/\(v'.ownBlock=v.ownBlock\/v'.ownBlock=some w.heap.size):=by
 rcases Nat.lt_or_ge i n with hlt|hge
 ·obtain⟨hxl,hown'⟩:=hown
  rcases hown' with ⟨_,h0⟩|⟨g,cap,cur,rfl,hb,hg,h3,h4,h5,h6⟩
  ·omega
  ·rcases Nat.lt_or_ge cap (n+1) with hfull|hroom
   ·refine(linsert_grow w base g n cap i xs cur hg h5 h6 hx1 hlt h3 hfull vb x y z hvb h1 hn hbase).mono ?_
    rintro e w' ⟨v',rfl,a1,a2,a3⟩
    exact⟨v',rfl,a1,a2.of_nil,.inr a3⟩
   ·refine(linsert_room w base g n cap i xs cur hg h5 h6 hx1 hlt hroom h4 hb vb x y z hvb (fun e=>hne (by rw[e];rfl)) h1 hn).mono ?_
    rintro e w' ⟨v',rfl,a1,a2,a3⟩
    exact⟨v',rfl,a1,a2,.inl a3⟩
 ·obtain rfl:i=n:=by omega
  refine(linsert_end w base v i xs hown vb x y z hvb h1 hn hbase).mono ?_
  rintro e w' ⟨v',rfl,a1,a2,a3⟩
  have hl:=hown.1
  refine⟨v',rfl,?_,a2,a3⟩
  rw[List.take_of_length_le (by omega),List.drop_of_length_le (by omega),List.append_nil]
  exact a1
theorem cmp_any (w:World) (m s x:Int) (p:Value) (hp:p.oneCell'=true) (hs:0<=s/\s<=1024) (hx:0<=x/\x<=1024):Grew Tryz.prog 138 #[.agg #[.int .i64 m,.int .i64 s,p],.int .i64 x] w (.int .i64 (s-x)):=by
 obtain⟨s1,s2⟩:=hs
 obtain⟨x1,x2⟩:=hx
 have ho:=(Only.refl [] w).alloc (.cells #[.int .i64 m,.int .i64 s,p] 257)
 go_enter Tryz.func138,Tryz.ntmps138
 go_wp2_with fail
 go_ret
 exact⟨rfl,ho⟩
def posTo (M:List Sp) (x:Int):Nat->Nat
 |0=>0
 |k+1=>if(sAt M k).start<x then k+1 else posTo M x k
theorem posTo_le (M:List Sp) (x:Int) (k:Nat):posTo M x k<=k:=by
 induction k with
 |zero=>exact Nat.le_refl _
 |succ k ih=>rw[posTo];split<;>omega
theorem posTo_eq {M:List Sp} {x:Int} {n i:Nat} (hi:i<=n) (h1:∀j,j<i->(sAt M j).start<x) (h2:∀j,i<=j->j<n->¬(sAt M j).start<x):posTo M x n=i:=by
 induction n with
 |zero=>rw[posTo];omega
 |succ n ih=>
  rw[posTo]
  by_cases h:i<=n
  ·rw[if_neg (h2 n h (by omega))]
   exact ih h (fun j a b=>h2 j a (by omega))
  ·have:i=n+1:=by omega
   subst this
   rw[if_pos (h1 n (by omega))]
set_option maxRecDepth 100000 in
set_option maxHeartbeats 4000000 in
theorem bsearch_any {w:World} {P:Nat} {A:Value} {c:Cl} {L:List En} (h:ListAt w P A c L) (x:Int) (hx:0<=x/\x<=1024):
 Calls Tryz.prog 137 #[A,.int .i64 x,.func (.func 138) #[] #[]] w fun e w'=>Only [] w w'/\∃f:Bool,e=.returned (.tuple #[.int .i64 (posTo (spans L) x L.length:Nat),.bool f]):=by
 obtain⟨ad,cp,rfl⟩:=h.slice
 have HA:=Lib.hid h
 have hn:=h.len
 obtain⟨N,hN⟩:∃N,N=L.length:=⟨_,rfl⟩
 rw[<-hN] at hn ⊢
 have HN:=Lib.hid hN
 have HST:=Lib.hid (fun j (hj:j<N)=>show 0<=(eAt L j).s.start/\(eAt L j).s.start<=1024 from(by
  have g:=(h.get (show j<L.length by rw[<-hN];exact hj)).1.good
  have:=g.b1
  have:=g.b2
  have:=g.p1
  omega))
 have HORD:=Lib.hid (fun i j (hij:i<j) (hj:j<N)=>show(eAt L i).s.start<(eAt L j).s.start from(by
  have g:=(h.get (show i<L.length by rw[<-hN];omega)).1.good
  have:=(h.apart hij (show j<L.length by rw[<-hN];exact hj)).ord
  have:=g.p1
  omega))
 have HX:=Lib.hid hx
 clear h hN hx
 go_enter Tryz.func137,Tryz.ntmps137
 go_wp2_with fail
 go_loopw[9,10] (fun a b wr=>∃lo hi:Nat,a=.int .i64 lo/\b=.int .i64 hi/\lo<=hi/\hi<=N/\Only [] w wr/\(∀j,j<lo->(eAt L j).s.start<x)/\(∀j,hi<=j->j<N->x<=(eAt L j).s.start)) (fun a b _=>((intOf b).toNat -(intOf a).toNat))
 case atStart=>exact⟨0,N,rfl,rfl,Nat.zero_le _,Nat.le_refl _,Only.refl _ _,fun j hj=>absurd hj (by omega),fun j h1 h2=>absurd h2 (by omega)⟩
 case round=>
  obtain⟨lo,hi,rfl,rfl,hlh,hin,ho,h1,h2⟩:=hrel
  have hr:=HA.out.still ho
  have H1:=Lib.hid h1
  have H2:=Lib.hid h2
  clear h1 h2
  by_cases hlt:lo<hi
  ·have d1:decide ((lo:Int)<hi)=true:=decide_eq_true (by omega)
   obtain⟨g,cp',e1⟩:=hr.form (by rw[<-HN.out];omega)
   injection e1 with e1 _ e3
   subst e1 e3
   obtain⟨k,hk⟩:∃k,k=(lo+hi)/2:=⟨_,rfl⟩
   have hkN:k<N:=by omega
   have hk1:((lo:Int)+(hi:Int))/2=k:=by omega
   obtain⟨q0,q1,q2,qf⟩:=own_ents hr.row rfl (j:=k) (by rw[<-HN.out];exact hkN)
   have CC:=Lib.hid (cmp_any wr (eAt L k).s.many (eAt L k).s.start x (.pointer (some ⟨(eAt L k).p,0,none⟩)) rfl (HST.out k hkN) HX.out)
   have HK:=Lib.hid hk
   clear hr
   by_cases hsx:(eAt L k).s.start<x
   ·have d2:decide ((eAt L k).s.start -x<0)=true:=decide_eq_true (by omega)
    have HSX:=Lib.hid hsx
    clear hsx hk
    generalize hst:(eAt L k).s.start=st at *
    have HS:=Lib.hid hst
    clear hst
    generalize (eAt L k).s.many=mn at *
    go_wp2_with (go_at_call 138;with_reducible refine Grew.use CC.out (fun w1 ho1=>?_))
    go_roundw
    case rel=>exact⟨k+1,hi,by go_num,rfl,by have:=HK.out;omega,hin,ho.trans ho1,fun j hj=>(by
     rcases Nat.lt_or_ge j k with h1|h1
     ·have a1:=HORD.out j k h1 hkN
      rw[HS.out] at a1
      have a2:=HSX.out
      omega
     ·rw[show j=k by omega,HS.out]
      exact HSX.out),H2.out⟩
    case measure=>simp[intOf];have:=HK.out;omega
   ·have d2:decide ((eAt L k).s.start -x<0)=false:=decide_eq_false (by omega)
    have HSX:=Lib.hid hsx
    clear hsx hk
    generalize hst:(eAt L k).s.start=st at *
    have HS:=Lib.hid hst
    clear hst
    generalize (eAt L k).s.many=mn at *
    go_wp2_with (go_at_call 138;with_reducible refine Grew.use CC.out (fun w1 ho1=>?_))
    go_roundw
    case rel=>exact⟨lo,k,rfl,by go_num,by have:=HK.out;omega,by omega,ho.trans ho1,H1.out,fun j h1 h2=>(by
     rcases Nat.lt_or_ge k j with h3|h3
     ·have a1:=HORD.out k j h3 h2
      rw[HS.out] at a1
      have a2:=HSX.out
      omega
     ·rw[show j=k by omega,HS.out]
      have a2:=HSX.out
      omega)⟩
    case measure=>simp[intOf];have:=HK.out;omega
  ·obtain rfl:lo=hi:=by omega
   have d1:decide ((lo:Int)<lo)=false:=decide_eq_false (by omega)
   have HP:Hid (posTo (spans L) x N=lo):=posTo_eq hin (fun j hj=>by rw[sAt_spans];exact H1.out j hj) (fun j h1 h2=>by rw[sAt_spans];have:=H2.out j h1 h2;omega)
   by_cases hlN:lo<N
   ·have d2:decide ((lo:Int)<N)=true:=decide_eq_true (by omega)
    obtain⟨g,cp',e1⟩:=hr.form (by rw[<-HN.out];omega)
    injection e1 with e1 _ e3
    subst e1 e3
    obtain⟨q0,q1,q2,qf⟩:=own_ents hr.row rfl (j:=lo) (by rw[<-HN.out];exact hlN)
    have CC:=Lib.hid (cmp_any wr (eAt L lo).s.many (eAt L lo).s.start x (.pointer (some ⟨(eAt L lo).p,0,none⟩)) rfl (HST.out lo hlN) HX.out)
    clear hr hlt
    generalize (eAt L lo).s.start=st at *
    generalize (eAt L lo).s.many=mn at *
    obtain⟨b,hb⟩:∃b,((st-x)==0)=b:=⟨_,rfl⟩
    go_wp2_with (go_at_call 138;with_reducible refine Grew.use CC.out (fun w1 ho1=>?_))
    go_ret2
    exact⟨ho.trans ho1,b,by rw[HP.out];rfl⟩
   ·have d2:decide ((lo:Int)<N)=false:=decide_eq_false (by omega)
    clear hr hlt
    go_wp2_with fail
    go_ret2
    first|exact⟨ho,false,by rw[HP.out];rfl⟩|exact⟨ho,.inl (by rw[HP.out];rfl)⟩
def closeTo (M:List Sp) (x pages:Int):Nat->Bool
 |0=>false
 |k+1=>closeTo M x pages k||decide (max (sAt M k).start x-min (sAt M k).start x<pages)
theorem closeTo_false {M:List Sp} {x pages:Int} {n:Nat} (h:closeTo M x pages n=false) (j:Nat) (hj:j<n):¬max (sAt M j).start x-min (sAt M j).start x<pages:=by
 induction n with
 |zero=>omega
 |succ n ih=>
  rw[closeTo,Bool.or_eq_false_iff] at h
  by_cases h1:j=n
  ·subst h1;exact of_decide_eq_false h.2
  ·exact ih h.1 (by omega)
theorem closeTo_true {M:List Sp} {x pages:Int} {n j:Nat} (hj:j<n) (h:max (sAt M j).start x-min (sAt M j).start x<pages):closeTo M x pages n=true:=by
 cases hc:closeTo M x pages n with
 |true=>rfl
 |false=>exact absurd h (closeTo_false hc j hj)
def addE (M:List Sp) (c:Cl) (x:Int):Int:=if ¬Sp.fits x c.size c.pages c.batch then 1 else if closeTo M x c.pages M.length then 9 else 0
def addM (M:List Sp) (c:Cl) (x:Int):List Sp:=if addE M c x=0 then M.take (posTo M x M.length)++[Sp.fresh x c.size c.pages c.batch]++M.drop (posTo M x M.length) else M
theorem posTo_spec {M:List Sp} {x:Int} (n:Nat) (hs:∀i j,i<j->j<n->(sAt M i).start<(sAt M j).start):(∀j,j<posTo M x n->(sAt M j).start<x)/\(∀j,posTo M x n<=j->j<n->x<=(sAt M j).start):=by
 induction n with
 |zero=>exact⟨fun j hj=>absurd hj (by rw[posTo];omega),fun j h1 h2=>absurd h2 (by omega)⟩
 |succ n ih=>
  rw[posTo]
  by_cases h:(sAt M n).start<x
  ·rw[if_pos h]
   refine⟨fun j hj=>?_,fun j h1 h2=>absurd h2 (by omega)⟩
   by_cases h1:j=n
   ·rw[h1];exact h
   ·have:=hs j n (by omega) (by omega)
    omega
  ·rw[if_neg h]
   obtain⟨i1,i2⟩:=ih (fun i j a b=>hs i j a (by omega))
   refine⟨i1,fun j h1 h2=>?_⟩
   by_cases h3:j=n
   ·rw[h3];omega
   ·exact i2 j h1 (by omega)
theorem mem_take {L:List En} {e:En} {k:Nat} (h:e∈L.take k):∃i,i<k/\i<L.length/\e=eAt L i:=by
 obtain⟨i,hi,rfl⟩:=List.getElem_of_mem h
 rw[List.length_take] at hi
 exact⟨i,by omega,by omega,by rw[List.getElem_take,eAt,List.getD_eq_getElem?_getD,List.getElem?_eq_getElem (by omega)];rfl⟩
theorem mem_drop {L:List En} {e:En} {k:Nat} (h:e∈L.drop k):∃i,k<=i/\i<L.length/\e=eAt L i:=by
 obtain⟨i,hi,rfl⟩:=List.getElem_of_mem h
 rw[List.length_drop] at hi
 exact⟨k+i,by omega,by omega,by rw[List.getElem_drop,eAt,List.getD_eq_getElem?_getD,List.getElem?_eq_getElem (by omega)];rfl⟩
theorem entCells_take (L:List En) (k:Nat) (hk:k<=L.length):entCells (L.take k)=(entCells L).take (k*3)/\entCells (L.drop k)=(entCells L).drop (k*3):=by
 have h1:entCells L=entCells (L.take k)++entCells (L.drop k):=by rw[<-entCells_append,List.take_append_drop]
 have h2:(entCells (L.take k)).length=k*3:=by rw[entCells_len,List.length_take];congr 1;omega
 constructor
 ·rw[h1,<-h2,List.take_left]
 ·rw[h1,<-h2,List.drop_left]
theorem entCells_one (L:List En):∀v∈entCells L,v.oneCell'=true:=by
 intro v hv
 obtain⟨e,_,he⟩:=List.mem_flatMap.1 hv
 simp at he
 rcases he with rfl|rfl|rfl<;>rfl
theorem ListAt.insert {w w':World} {P:Nat} {A A':Value} {c:Cl} {L:List En} {e:En} {k:Nat} (h:ListAt w P A c L) (hk:k<=L.length)
 (hblk:Blk w' P 180 #[.int .i64 c.size,.int .i64 c.pages,.int .i64 c.batch,A']) (hrow:w'.ownsRow 0 257 3 A' (L.length+1) ((entCells L).take (k*3)++[.int .i64 e.s.many,.int .i64 e.s.start,.pointer (some ⟨e.p,0,none⟩)]++(entCells L).drop (k*3)))
 (hsp:∀x∈L,SpanAt w' x.p x.q x.cap x.s) (he:SpanAt w' e.p e.q e.cap e.s/\e.s.of c) (hneL:∀x∈L,A'.ownBlock≠some x.p/\A'.ownBlock≠some x.q) (hneE:e.p≠P/\e.q≠P/\A'.ownBlock≠some e.p/\A'.ownBlock≠some e.q) (hnA:A'.ownBlock≠some P)
 (hd:∀x∈L,x.p≠e.p/\x.p≠e.q/\x.q≠e.p/\x.q≠e.q) (h1:∀j,j<k->(eAt L j).s.start+c.pages<=e.s.start) (h2:∀j,k<=j->j<L.length->e.s.start+c.pages<=(eAt L j).s.start):
 ListAt w' P A' c (L.take k++[e]++L.drop k):=by
 have hm:∀x,x∈L.take k++[e]++L.drop k->x∈L\/x=e:=fun x hx=>by
  simp at hx
  rcases hx with hx|rfl|hx
  ·exact .inl (List.mem_of_mem_take hx)
  ·exact .inr rfl
  ·exact .inl (List.mem_of_mem_drop hx)
 refine⟨hblk,h.one,?_,fun x hx=>?_,fun x hx=>?_,hnA,?_⟩
 ·obtain⟨t1,t2⟩:=entCells_take L k hk
  rw[show(L.take k++[e]++L.drop k).length=L.length+1 by simp;omega,entCells_append,entCells_append,t1,t2]
  exact hrow
 ·rcases hm x hx with h1|rfl
  ·exact⟨hsp x h1,(h.sp x h1).2⟩
  ·exact he
 ·rcases hm x hx with h1|rfl
  ·have:=h.ne x h1
   exact⟨this.1,this.2.1,hneL x h1⟩
  ·exact hneE
 ·have hap:=h.ap
  rw[<-List.take_append_drop k L,List.pairwise_append] at hap
  rw[List.append_assoc,List.pairwise_append,List.pairwise_append]
  refine⟨hap.1,⟨List.pairwise_singleton _ _,hap.2.1,fun a ha b hb=>?_⟩,fun a ha b hb=>?_⟩
  ·simp at ha
   subst ha
   obtain⟨i,i1,i2,rfl⟩:=mem_drop hb
   have:=hd _ (eAt_mem i2)
   exact⟨by rw[he.2.2.1];exact h2 i i1 i2,Ne.symm this.1,Ne.symm this.2.2.1,Ne.symm this.2.1,Ne.symm this.2.2.2⟩
  ·rcases List.mem_append.1 hb with hb|hb
   ·simp at hb
    subst hb
    obtain⟨i,i1,i2,rfl⟩:=mem_take ha
    have:=hd _ (eAt_mem i2)
    have hof:=(h.get i2).2.2.1
    exact⟨by rw[hof];exact h1 i i1,this.1,this.2.1,this.2.2.1,this.2.2.2⟩
   ·exact hap.2.2 a ha b hb
end Go.Proofs.YtcidjimefnhacaaGreatDoor
