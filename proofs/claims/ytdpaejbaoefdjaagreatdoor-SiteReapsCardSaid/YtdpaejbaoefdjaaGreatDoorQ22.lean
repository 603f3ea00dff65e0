/- Part 22. -/
import Derived.Test.YtdpaejbaoefdjaaGreatDoorQ21
import Derived.Lib.OwnBridge
open Go.AllReadyIn renaming cons → aa,nil → ag
open Go renaming cell_of_row → af,World → ah,wpAnyIn_ready → aj,lt_of_block → aB,heap_alloc_new → aH,Value → aI,maxLen → aM,callsIn_wide → aP,Calls → aQ,TypeId → aU,Addr → aW,Boxed → bg,wpAnyIn_done → bC,undef → bQ,MemPlace → bS,ownsRow_succ → bX
open Nat renaming le_refl → an,le_trans → ay,lt_of_lt_of_le → aE
open Go.RowKit.Below renaming refl → aq
open Go.DataW renaming trod → au,trod_int → aC,trod_struct → aZ
open Go.World renaming block_lt_of_cell? → aA,size_alloc → aJ,putObj_heap_other → bH,ownsRow_nil → bU
open Array renaming getElem?_eq_some_iff → aD,getElem?_modify → bP
open List renaming length_map → aF,getElem?_eq_getElem → aK,map_append → aL,length_append → aN,pairwise_iff_getElem → aO,mem_cons_of_mem → aR,cons_append → bu,eq_nil_of_length_eq_zero → bA,getElem?_eq_some_iff → bF,take_of_length_le → bM,map_map → bN,length_filter_le → bT,mem_cons_self → bW,take_add_one → bY
open Go.Sort renaming ahead → aG,putRow → aT,mapBlock → aY
open Bool renaming not_false → aS,not_true → aV
open Go.ChangeMaps renaming setBlock → aX
open Go.CallsIn renaming inRound → bh
open Go.Boxed renaming new → bq
open Go.Proofs renaming encStr → bz
open Go.IntKind renaming signed → bB,bits → bG,min → bJ,max → bK
open Go.Lib renaming compact → bL
namespace Go.Proofs.YtdpaejbaoefdjaaGreatDoor
open Go.Proofs.Tryz
set_option maxRecDepth 100000
set_option maxHeartbeats 64000000
set_option linter.unusedVariables false
set_option linter.unusedSimpArgs false
section
open Go.RowKit Go.Shelf Go.MapKept Go.ChangeMaps Go.Maps Go.Sort
attribute [local go_sem] Oper.semAt_some
def jB(root:cP)(M:List (cP×Nd))(p:cP):List cP:=qI (((gU M).filter (rJ root p)).map jG)
theorem I4(root:cP)(M:List (cP×Nd))(p:cP):(((gU M).filter (rJ root p)).map jG).length≤M.length:=by
 rw[aF];have:=bT (rJ root p) (gU M);rw[pK] at this;exact this
theorem Mc(w:ah)(a1 a2 a3 a4 a5:aI)(t1 t2 t3 t4 t5:aU)(W:ah)
  (h:W=((((w.alloc (.cells #[a1] t1)).alloc (.cells #[a2] t2)).alloc (.cells #[a3] t3)).alloc (.cells #[a4] t4)).alloc (.cells #[a5] t5)):
  cF w W∧W.heap.size=w.heap.size+5∧bg W w.heap.size t1 a1∧bg W (w.heap.size+1) t2 a2∧bg W (w.heap.size+1+1) t3 a3∧bg W (w.heap.size+1+1+1) t4 a4∧bg W (w.heap.size+1+1+1+1) t5 a5:=by
 subst h;have b1:=bq w t1 a1;have b2:=bq (w.alloc (.cells #[a1] t1)) t2 a2;have b3:=bq ((w.alloc (.cells #[a1] t1)).alloc (.cells #[a2] t2)) t3 a3;have b4:=bq (((w.alloc (.cells #[a1] t1)).alloc (.cells #[a2] t2)).alloc (.cells #[a3] t3)) t4 a4;have b5:=bq ((((w.alloc (.cells #[a1] t1)).alloc (.cells #[a2] t2)).alloc (.cells #[a3] t3)).alloc (.cells #[a4] t4)) t5 a5;simp only[aJ] at b2 b3 b4 b5;refine⟨?_,by simp,(((b1.alloc _).alloc _).alloc _).alloc _,((b2.alloc _).alloc _).alloc _,(b3.alloc _).alloc _,b4.alloc _,b5⟩;exact cR (cR (cR (cR (cR (aq _ w) _) _) _) _) _
theorem jc{W W':ah}(h:cF W W'):KeepsOthers W W':=⟨h.size,fun k o hk _=>(h.block k (aD.1 hk).1).trans hk⟩
def xm(w:ah)(base:Nat)(v:aI)(L:List cP):Prop:=
 (v=.n∧L=[])∨∃g cap,v=.slice (some ⟨g,0,none⟩) L.length cap∧base≤g∧g<w.heap.size∧L.length≤cap∧∀i p,L[i]?=some p→w.cell? ⟨g,i,none⟩=some (.s p)
theorem rV.c{w:ah}{base:Nat}{v:aI}{L:List cP}(h:rV w base v L):xm w base v L:=by
 rcases h.at with h|⟨g,cap,h1,h2,h3,h4,_,h5⟩
 ·exact .inl h
 exact .inr ⟨g,cap,h1,h2,h3,h4,h5⟩
theorem xm.kept{w w':ah}{base:Nat}{v:aI}{L:List cP}(h:xm w base v L)(hs:w.heap.size≤w'.heap.size)(hk:∀g,v.ownBlock=some g→w'.heap[g]?=w.heap[g]?):xm w' base v L:=by
 rcases h with h|⟨g,cap,rfl,h2,h3,h4,h5⟩
 ·exact .inl h
 exact .inr ⟨g,cap,rfl,h2,by omega,h4,fun i p hp=>(World.cell?_of_block (w:=w) (a:=⟨g,i,none⟩) (hk g rfl)).trans (h5 i p hp)⟩
theorem xm.mono{w:ah}{base base':Nat}{v:aI}{L:List cP}(h:xm w base v L)(hb:base'≤base):xm w base' v L:=by
 rcases h with h|⟨g,cap,h1,h2,h3,h4,h5⟩
 ·exact .inl h
 exact .inr ⟨g,cap,h1,by omega,h3,h4,h5⟩
theorem xm.form{w:ah}{base:Nat}{v:aI}{L:List cP}(h:xm w base v L):∃a c,v=.slice a L.length c∧L.length≤c:=by
 rcases h with ⟨rfl,rfl⟩|⟨g,cap,rfl,_,_,h4,_⟩
 ·exact⟨_,_,rfl,an _⟩
 exact⟨_,_,rfl,h4⟩
theorem Pa(w:ah)(base:Nat)(v:aI)(L:List cP)(h:rV w base v L)(hbig:L.length≤1000):
  aQ prog 56 #[v] w fun e w'=>e=.returned (.tuple #[])∧xm w' base v (qI L)∧w.heap.size≤w'.heap.size∧w'.os=w.os∧w'.tape=w.tape∧w'.output=w.output∧(∀k,k<w.heap.size→v.ownBlock≠some k→w'.heap[k]?=w.heap[k]?):=by
 by_cases h0:v=.n
 ·have hL:L=[]:=by
   rcases h.at with ⟨_,h2⟩|⟨g,cap,h1,_⟩
   ·exact h2
   rw[h0] at h1;cases h1
  subst h0 hL;refine(slices_Sort_string_none none 0 w).mono ?_;rintro e w' ⟨rfl,rfl⟩;exact⟨rfl,.inl ⟨rfl,by simp[qI]⟩,an _,rfl,rfl,rfl,fun _ _ _=>rfl⟩
 obtain⟨g,cap,rfl,zn,hg,hnc,hcm,hzl,hH⟩:=Lib.holds_of_ownsRow (enc:=bz) h h0;refine(slices_Sort_string g 0 cap L w hH hg cL).mono ?_;rintro e w' ⟨rfl,n,os,rfl⟩;have hsz:g<(aT bz (aG w n) g 0 (L.mergeSort fun x y=>decide (x≤y)).toArray).heap.size:=by simpa [aT,aY,aG] using hg
 have hls:(qI L).length=L.length:=(gH L).length_eq;have hH2:=holds_grow _ _ os g 0 _ hsz (holds_putRow _ _ g 0 _ _ (holds_ahead _ w n g 0 _ hH) cN);refine⟨rfl,.inr ⟨g,cap,by rw[hls],zn,?_,by omega,fun i p hp=>?_⟩,?_,rfl,rfl,rfl,fun k hk hne=>?_⟩
 ·simp[grow,aT,aY,aG];omega
 ·have hi:i<(L.mergeSort fun x y=>decide (x≤y)).toArray.size:=by simpa [qI] using (bF.1 hp).1
  have:=(hH2 i hi).1;rw[Nat.zero_add] at this;rw[this,getElem!_pos _ i hi];have he:=(bF.1 hp).2;simp only[List.getElem_toArray];unfold qI at he;rw[he];rfl
 ·simp[grow,aT,aY,aG]
 have h1:(grow (aT bz (aG w n) g 0 (L.mergeSort fun x y=>decide (x≤y)).toArray) os).heap[k]?=(aT bz (aG w n) g 0 (L.mergeSort fun x y=>decide (x≤y)).toArray).heap[k]?:=heap_grow_old _ os (by simpa [aT,aY,aG] using hk);rw[h1];have hgk:g≠k:=fun e=>hne (by rw[e];rfl)
 simp[aT,aY,aG,bP,hgk]
theorem XI(w:ah)(tp:Option aW)(p:cP)(ys:List Key)(hlen:ys.length≤1000)(F7:dG w)
  (hseq:∀W1,cF w W1→W1.heap.size=w.heap.size+5→bg W1 w.heap.size 57 (.pointer tp)→bg W1 (w.heap.size+1) 9 (.s p)→bg W1 (w.heap.size+1+1) 28 (.n)→
   bg W1 (w.heap.size+1+1+1) 57 (.pointer tp)→bg W1 (w.heap.size+1+1+1+1) 124 (.func (.func 53) #[] #[.p (w.heap.size+1),.p w.heap.size])→
   SeqStopsK Fence.wide 1 prog 115 #[.p (w.heap.size+1+1+1),.p (w.heap.size+1+1+1+1)] (fun x:Key=>#[sv x.1]) (ji W1.heap.size (w.heap.size+1+1)) (fun zs=>zs=ys) (fun pre=>pre <+: ys) 1000 W1):
  aQ prog 20 #[.pointer tp,.s p] w fun e W'=>∃v,e=.returned v∧xm W' w.heap.size v (qI (ys.map fun q=>jG q.1))∧cF w W':=by
 obtain⟨i0,hi,hz0,hz1,hz2⟩:=info_parts F1;have HMX:=cE F7;clear F7;refine(aP (n:=2)).1 ?_;refine callsIn_of_wp_marks func20 rfl trivial ?_ rfl;simp only[ntmps20,List.size_toArray,List.length_cons,List.length_nil,Nat.reduceAdd,Nat.reduceSub,Array.replicate_succ,Array.replicate_zero,List.push_toArray,List.append_toArray,List.nil_append,bu];gi_wp2_with fail
 refine⟨trivial,?_⟩;refine(aP.2 (Ow _ _ _ rfl rfl)).mono ?_;rintro e w' ⟨rfl,rfl⟩;gi_wp2
 obtain⟨W1,zq⟩:∃W1,W1=((((w.alloc (.cells #[.pointer tp] 57)).alloc (.cells #[.s p] 9)).alloc (.cells #[.n] 28)).alloc (.cells #[.pointer tp] 57)).alloc
  (.cells #[.func (.func 53) #[] #[.p (w.heap.size+1),.p w.heap.size]] 124):=⟨_,rfl⟩
 obtain⟨Oe,hs1,bt,bp,bo,bt2,bw⟩:=Mc w _ _ _ _ _ _ _ _ _ _ W1 zq;rw[←zq];clear zq;have HS:=cE hs1;have jk:=cE Oe;have HBT:=cE bt;have HBP:=cE bp;have HBO:=cE bo;have amB:=cE bt2;have RM:=cE bw;clear hs1 Oe bt bp bo bt2 bw;have Ue:w.heap.size+4<W1.heap.size:=by rw[HS.out];omega
 refine wpIn_rangeFunc_ownG (α:=Key) rfl cL (gf:=115) (lb:=#[.p (w.heap.size+1+1+1),.p (w.heap.size+1+1+1+1)]) rfl trivial (enters_of func115 cK rfl)
  (encs:=fun x:Key=>#[sv x.1]) (Kp:=ji W1.heap.size (w.heap.size+1+1)) (S:=fun zs=>zs=ys) (Sp:=fun pre=>pre <+: ys) (N:=1000) (w0:=W1)
  ?seq fO (NR (an _) cL) (aq _ _) (fun _=>rfl)
  (fun pre W=>(∃v,bg W (w.heap.size+1+1) 28 v∧W.ownsRow W1.heap.size 9 1 v pre.length (pre.map fun q=>sv (jG q.1))∧True)∧ji W1.heap.size (w.heap.size+1+1) W1 W)
  (fun _ _ _=>False)
  (OwnFrom.and (Own.from (holdsRow_own W1.heap.size (w.heap.size+1+1) 28 9 1 (fun pre:List Key=>pre.length) (fun pre=>pre.map fun q=>sv (jG q.1)) (fun _ _=>True)) _) (tH (an _) cL (an _)))
  (fun _ _ _ _ _ hs _ _=>hs)
  ⟨⟨_,HBO.out,bU _ _ _ _,trivial⟩,qw _ _ _⟩
  (fun x=>{tmps:=#[.pointer tp,.s p,.p w.heap.size,.p (w.heap.size+1),.n,.p (w.heap.size+1+1),sv x.1,.pointer tp,.func (.func 53) #[] #[.p (w.heap.size+1),.p w.heap.size],
   .func (.func 115) #[] #[.p (w.heap.size+1+1+1),.p (w.heap.size+1+1+1+1)],sv x.1,bQ,bQ,bQ,bQ,bQ,bQ,bQ,bQ],defers:=[]}) ?assign ?body ?done ?stop
 case seq=>
  exact hseq W1 jk.out HS.out HBT.out HBP.out HBO.out amB.out RM.out
 case assign=>
  intro l x W K hK;unfold sv at*;gi_wp2
  exact hK
 case body=>
  rintro l pre ⟨x,hxl⟩ W ⟨⟨v,hv,hrow,_⟩,hB⟩ hlt;have hsz:=hB.size;have Yi:cF w W.drew:=(jk.out.trans (kG hB cL cL)).drew;have VM:=cE (JH HMX.out x hxl W.drew Yi);have HHB:=cE hB;have hc:=hv.cell;have hO:=hv.lt;have hc0:W.drew.cell? ⟨w.heap.size+1+1,0,none⟩=some v:=hc;unfold sv;have Zt:bg W.drew (w.heap.size+1+1) 28 v:=hv;have TY:W.drew.ownsRow W1.heap.size 9 1 v pre.length (pre.map fun q=>sv (jG q.1)):=hrow;have hOd:w.heap.size+1+1<W.drew.heap.size:=hO;have abz:W1.heap.size≤W.drew.heap.size:=hsz;clear Yi hB;gi_wp2_with fail
  refine wpIn_region_any cK ?_
  try (change wpAnyIn _ _ _ _ _ _ _ _ _ (World.drew _))
  refine aj (rs:=[0,1]) cK cN ?_;refine aa rfl (fun K hK=>?_) (aa rfl (fun K hK=>?_) ag)
  ·go_simp
   refine hK _ _ ?_;clear hK K;refine aj (rs:=[1]) cK cN ?_;refine aa rfl (fun K hK=>?_) ag;go_simp
   refine hK _ _ ?_;clear hK K;refine aj (rs:=[2]) cK cN ?_;refine aa rfl (fun K hK=>?_) ag;go_simp
   refine⟨trivial,rfl,?_⟩;refine(bh l (aP.2 VM.out)).mono ?_;rintro e w5 ⟨rfl,B5⟩;have NV:=fZ Zt B5 hOd;have l7:=vL (base':=W1.heap.size) TY (an _) (fun g cs fr _ _ hg=>B5.block g (aD.1 hg).1);obtain⟨v',w6,q,hown',hgrow,zZ⟩:=gv (P:=prog) (w:=w5.alloc (.cells #[.string (bs (jG x))] 9)) W1.heap.size 28 28 9 i0 (.z) 1 16 underlying28 hi hz0 hz1 hz2 rfl cM v _ _ (l7.alloc _) ⟨w5.heap.size,0,none⟩ 1 1 [.string (bs (jG x))] rfl (qE w5 _ _) (by intro u hu;simp at hu;subst hu;rfl) (by unfold aM;omega) cL (by have:=B5.size;rw[aJ];omega);obtain⟨g',cap',rfl⟩:=bX hown';have hc5:=NV.cell;have hl5:=NV.lt;obtain⟨sZ,qx,hr2,hk2,dz⟩:=pW (n:=W1.heap.size) NV cM l7 (ay abz B5.size) (an _) hown' hgrow zZ;have hc1:=sZ.cell;have tQ:=sZ.frozen;refine hK _ _ ?_;clear hK K;refine aj (rs:=[3]) cK cN ?_;refine aa rfl (fun K hK=>?_) ag;go_simp
   refine hK _ _ ?_;clear hK K;refine aj (rs:=[4]) cK cN ?_;refine aa rfl (fun K hK=>?_) ag;refine jb rfl (.tmp 11) (.tmp 14) 28 rfl v _ _ w6 rfl rfl q ?_;refine hK _ _ ?_;clear hK K;refine aj (rs:=[5]) cK cN ?_;refine aa rfl (fun K hK=>?_) ag;go_simp
   refine hK _ _ ?_;clear hK K;refine bC cK ?_ _;exact⟨((jc (W:=W) (W':=w5) ⟨B5.os,B5.tape,B5.output,B5.size,B5.block⟩).trans hk2).from _,fO (fu ⟨B5.os,B5.tape,B5.output,B5.size,B5.block⟩ hsz hO) dz,⟨_,qx,by rw[aN,aL];exact hr2,trivial⟩,fO HHB.out (fO (fu ⟨B5.os,B5.tape,B5.output,B5.size,B5.block⟩ hsz hO) dz)⟩
  go_simp
  refine hK _ _ ?_;clear hK K;refine aj (rs:=[0,2]) cK cN ?_;refine aa rfl (fun K hK=>?_) (aa rfl (fun K hK=>?_) ag)
  ·go_simp
   refine hK _ _ ?_;clear hK K;refine aj (rs:=[2]) cK cN ?_;refine aa rfl (fun K hK=>?_) ag;go_simp
   refine⟨trivial,rfl,?_⟩;refine(bh l (aP.2 VM.out)).mono ?_;rintro e w5 ⟨rfl,B5⟩;have NV:=fZ Zt B5 hOd;have l7:=vL (base':=W1.heap.size) TY (an _) (fun g cs fr _ _ hg=>B5.block g (aD.1 hg).1);obtain⟨v',w6,q,hown',hgrow,zZ⟩:=gv (P:=prog) (w:=w5.alloc (.cells #[.string (bs (jG x))] 9)) W1.heap.size 28 28 9 i0 (.z) 1 16 underlying28 hi hz0 hz1 hz2 rfl cM v _ _ (l7.alloc _) ⟨w5.heap.size,0,none⟩ 1 1 [.string (bs (jG x))] rfl (qE w5 _ _) (by intro u hu;simp at hu;subst hu;rfl) (by unfold aM;omega) cL (by have:=B5.size;rw[aJ];omega);obtain⟨g',cap',rfl⟩:=bX hown';have hc5:=NV.cell;have hl5:=NV.lt;obtain⟨sZ,qx,hr2,hk2,dz⟩:=pW (n:=W1.heap.size) NV cM l7 (ay abz B5.size) (an _) hown' hgrow zZ;have hc1:=sZ.cell;have tQ:=sZ.frozen;refine hK _ _ ?_;clear hK K;refine aj (rs:=[3]) cK cN ?_;refine aa rfl (fun K hK=>?_) ag;go_simp
   refine hK _ _ ?_;clear hK K;refine aj (rs:=[4]) cK cN ?_;refine aa rfl (fun K hK=>?_) ag;refine jb rfl (.tmp 11) (.tmp 14) 28 rfl v _ _ w6 rfl rfl q ?_;refine hK _ _ ?_;clear hK K;refine aj (rs:=[5]) cK cN ?_;refine aa rfl (fun K hK=>?_) ag;go_simp
   refine hK _ _ ?_;clear hK K;refine bC cK ?_ _;exact⟨((jc (W:=W) (W':=w5) ⟨B5.os,B5.tape,B5.output,B5.size,B5.block⟩).trans hk2).from _,fO (fu ⟨B5.os,B5.tape,B5.output,B5.size,B5.block⟩ hsz hO) dz,⟨_,qx,by rw[aN,aL];exact hr2,trivial⟩,fO HHB.out (fO (fu ⟨B5.os,B5.tape,B5.output,B5.size,B5.block⟩ hsz hO) dz)⟩
  go_simp
  refine⟨trivial,rfl,?_⟩;refine(bh l (aP.2 VM.out)).mono ?_;rintro e w5 ⟨rfl,B5⟩;have NV:=fZ Zt B5 hOd;have l7:=vL (base':=W1.heap.size) TY (an _) (fun g cs fr _ _ hg=>B5.block g (aD.1 hg).1);obtain⟨v',w6,q,hown',hgrow,zZ⟩:=gv (P:=prog) (w:=w5.alloc (.cells #[.string (bs (jG x))] 9)) W1.heap.size 28 28 9 i0 (.z) 1 16 underlying28 hi hz0 hz1 hz2 rfl cM v _ _ (l7.alloc _) ⟨w5.heap.size,0,none⟩ 1 1 [.string (bs (jG x))] rfl (qE w5 _ _) (by intro u hu;simp at hu;subst hu;rfl) (by unfold aM;omega) cL (by have:=B5.size;rw[aJ];omega);obtain⟨g',cap',rfl⟩:=bX hown';have hc5:=NV.cell;have hl5:=NV.lt;obtain⟨sZ,qx,hr2,hk2,dz⟩:=pW (n:=W1.heap.size) NV cM l7 (ay abz B5.size) (an _) hown' hgrow zZ;have hc1:=sZ.cell;have tQ:=sZ.frozen;refine hK _ _ ?_;clear hK K;refine aj (rs:=[0,3]) cK cN ?_;refine aa rfl (fun K hK=>?_) (aa rfl (fun K hK=>?_) ag)
  ·go_simp
   refine hK _ _ ?_;clear hK K;refine aj (rs:=[3]) cK cN ?_;refine aa rfl (fun K hK=>?_) ag;go_simp
   refine hK _ _ ?_;clear hK K;refine aj (rs:=[4]) cK cN ?_;refine aa rfl (fun K hK=>?_) ag;refine jb rfl (.tmp 11) (.tmp 14) 28 rfl v _ _ w6 rfl rfl q ?_;refine hK _ _ ?_;clear hK K;refine aj (rs:=[5]) cK cN ?_;refine aa rfl (fun K hK=>?_) ag;go_simp
   refine hK _ _ ?_;clear hK K;refine bC cK ?_ _;exact⟨((jc (W:=W) (W':=w5) ⟨B5.os,B5.tape,B5.output,B5.size,B5.block⟩).trans hk2).from _,fO (fu ⟨B5.os,B5.tape,B5.output,B5.size,B5.block⟩ hsz hO) dz,⟨_,qx,by rw[aN,aL];exact hr2,trivial⟩,fO HHB.out (fO (fu ⟨B5.os,B5.tape,B5.output,B5.size,B5.block⟩ hsz hO) dz)⟩
  go_simp
  refine hK _ _ ?_;clear hK K;refine aj (rs:=[0]) cK cN ?_;refine aa rfl (fun K hK=>?_) ag;go_simp
  refine hK _ _ ?_;clear hK K;refine aj (rs:=[4]) cK cN ?_;refine aa rfl (fun K hK=>?_) ag;refine jb rfl (.tmp 11) (.tmp 14) 28 rfl v _ _ w6 rfl rfl q ?_;refine hK _ _ ?_;clear hK K;refine aj (rs:=[5]) cK cN ?_;refine aa rfl (fun K hK=>?_) ag;go_simp
  refine hK _ _ ?_;clear hK K;refine bC cK ?_ _;exact⟨((jc (W:=W) (W':=w5) ⟨B5.os,B5.tape,B5.output,B5.size,B5.block⟩).trans hk2).from _,fO (fu ⟨B5.os,B5.tape,B5.output,B5.size,B5.block⟩ hsz hO) dz,⟨_,qx,by rw[aN,aL];exact hr2,trivial⟩,fO HHB.out (fO (fu ⟨B5.os,B5.tape,B5.output,B5.size,B5.block⟩ hsz hO) dz)⟩
 case done=>
  rintro D zs W hD rfl ⟨⟨v,hv,hrow,_⟩,hB⟩ hK;have hLL:zs.map (fun q=>sv (jG q.1))=(zs.map fun q=>jG q.1).map sv:=by rw[bN];rfl
  have ZY:zs.length=(zs.map fun q=>jG q.1).length:=by rw[aF]
  rw[hLL,ZY] at hrow;have hlen:(zs.map fun q=>jG q.1).length≤1000:=by rw[aF];exact hlen
  have ahc:=cE (Pa W W1.heap.size v _ hrow hlen);have hc:=hv.cell;have HV:=cE hv;have HB:=cE hB;have HKD:=cE hK;have hrl:∀g,v.ownBlock=some g→W1.heap.size≤g∧∃cs e fr,W.heap[g]?=some (.cells cs e fr):=fun g hg=>by
   rcases hrow.2 with ⟨rfl,_⟩|⟨g',cap,cur,rfl,zn,uC,_⟩
   ·cases hg
   cases hg;exact⟨zn,_,_,_,uC⟩
  have HRL:=cE hrl;clear hLL ZY hrow hlen hv hB hK hrl;gi_wp2_with fail
  refine⟨trivial,?_⟩;refine(aP.2 ahc.out).mono ?_;rintro e w' ⟨rfl,hC,hsz,hos,NW,hout,hfr⟩;have hOl:w.heap.size+1+1<W.heap.size:=HV.out.lt;have hDl:D<W.heap.size:=(aD.1 HKD.out).1;have hvO:bg w' (w.heap.size+1+1) 28 v:=(hfr _ hOl (fun e=>by have:=(HRL.out _ e).1;omega)).trans HV.out;have hKD:w'.heap[D]?=some (.deferred (some [])):=(hfr _ hDl (fun e=>by obtain⟨_,_,_,_,h⟩:=HRL.out _ e;rw[HKD.out] at h;cases h)).trans HKD.out;have hcO:=hvO.cell;have HX:=cE (cD hC (cD hsz (cD hos (cD NW (cD hout hfr)))));have amo:=cE hKD;clear hC hsz hos NW hout hfr hKD hvO;gi_wp2
  refine⟨by simp,.inl ⟨_,_,rfl,run_takeDeferred amo.out,?_⟩⟩;obtain⟨hC,hsz,hos,NW,hout,hfr⟩:=HX.out;refine⟨_,results_tmp rfl _ _ _,v,rfl,?_,?_⟩
  ·refine(hC.kept cN (fun g hg=>bH (fun e=>?_))).mono jk.out.size
   subst e;obtain⟨_,_,_,_,h⟩:=HRL.out _ hg;rw[HKD.out] at h;cases h
  have h1:cF w W:=jk.out.trans (kG HB.out cL cL);refine h1.trans ⟨hos,NW,hout,by simpa using hsz,fun k hk=>?_⟩;rw[bH cL];have:=h1.size;exact hfr k cL (fun e=>by have:=(HRL.out _ e).1;omega)
 rintro D c pre W _ _ h _;exact h.elim
section
variable{w:World}{lo:Nat→Prop}{b mb:Nat}{root:cP}{at_:Int}{M:List (cP×Nd)}
theorem dJ.BH(T:dJ w lo b mb root at_ M)(hM:M.length≤1000)(F7:dG w)(hkl:∀x∈M,x.1.length≤1000)(p:cP):
  aQ prog 20 #[.p b,.s p] w fun e W'=>∃v,e=.returned v∧xm W' w.heap.size v (jB root M p)∧cF w W':=by
 have gM:b<w.heap.size:=aB T.blk;obtain⟨K,hK⟩:=NP (gU M) (rK hkl);have hLL:(K.filter fun q=>rJ root p q.1).map (fun q=>jG q.1)=((gU M).filter (rJ root p)).map jG:=by
  rw[←hK,←keys_filter,bN];rfl
 have hfl:(K.filter fun q=>rJ root p q.1).length≤1000:=by
  have h1:=I4 root M p;rw[←hLL,aF] at h1;omega
 unfold jB;rw[←hLL];refine XI w (some ⟨b,0,none⟩) p (K.filter fun q=>rJ root p q.1) hfl F7 fun W1 Oe hs1 bt bp bo bt2 bw=>?_
 intro l J Jx W hW hJ _ hY h0;have akV:=fZ bt2 hW cL;have kA:=fZ bw hW cL;have hbo:=fZ bo hW cL;have Yi:cF w W:=Oe.trans (hW.mono Oe.size);refine WR 1 l (w.heap.size+1+1+1) (w.heap.size+1+1+1+1) W1.heap.size (w.heap.size+1+1) b mb lo root at_ M hM K hK (fun q=>rJ root p q.1) (w.heap.size+1) w.heap.size J Jx hY W hJ hW.size cL cL cL cL cL cL cL
  akV.cell kA.cell (T.below Yi) (by rw[lV hbo];rfl) ?_ h0
 intro W' hk q hq;have hb':cF w W':=Yi.trans (kG hk cL cL);have T':=T.below hb';exact XJ root p q.1 (w.heap.size+1) w.heap.size b W' (F7.kept hb') q.2 (zH (fZ bp hW cL) hk cL cL).cell (zH (fZ bt hW cL) hk cL cL).cell T'.cells.1
end
theorem eB.map{w w':ah}{lo:Nat→Prop}{hi mb:Nat}{a:Option aW}{D:cP}(h:eB w lo hi a D){es:Array MapEntry}{c:Nat}(hmb:w.heap[mb]?=some (.map es c))(hk:Kept (·=mb) w w')(hw:hi≤w.heap.size):eB w' lo hi a D:=fun j x hj=>by
 obtain⟨b,off,h1,h2,h3,h4⟩:=h j x hj;refine⟨b,off,h1,h2,h3,(hk.cell (p:=⟨b,off+j,none⟩) (aE h3 hw) (fun e=>?_)).trans h4⟩;have e:b=mb:=e;subst e;simp[World.cell?,hmb] at h4
theorem Reads.map{w w':ah}{lo:Nat→Prop}{mb:Nat}{r:Raw}{d:Nd}(h:Reads w lo r d){es:Array MapEntry}{c:Nat}(hmb:w.heap[mb]?=some (.map es c))(hk:Kept (·=mb) w w'):Reads w' lo r d:=
 ⟨h.num,h.len,(h.data.map hmb hk (an _)).mono (fun _ h=>h) hk.size,h.nil⟩
def wM(root:cP)(M:List (cP×Nd))(p:cP):Int:=if p=root then 30 else if (dF p M).isSome=false then 31 else if 0<(jB root M p).length then 33 else 0
def zu(root:cP)(M:List (cP×Nd))(p:cP):List (cP×Nd):=if wM root M p=0 then oR p M else M
section
variable{w:World}{lo:Nat→Prop}{b mb:Nat}{root:cP}{at_:Int}{M:List (cP×Nd)}
theorem dJ.SJ(T:dJ w lo b mb root at_ M){m:List (cP×Raw)}{M':List (cP×Nd)}{w':ah}(hk:Kept (·=mb) w w')(hm:dL prog 9 sv Raw.val w' mb m)(hl:iR w lo m M')(hbm:b≠mb):dJ w' lo b mb root at_ M':=by
 obtain⟨m0,hm0,_⟩:=T.map;obtain⟨es,c,he,_⟩:=hm0;exact⟨(hk.block b (aB T.blk) hbm).trans T.blk,m,hm,hl.imp fun r d h=>h.map he hk⟩
theorem dJ.ne(T:dJ w lo b mb root at_ M):b≠mb:=fun e=>by
 obtain⟨m0,hm0,_⟩:=T.map;obtain⟨es,c,he,_⟩:=hm0;have:=T.blk;rw[e,he] at this;cases this
theorem dJ.BV(T:dJ w lo b mb root at_ M)(hM:M.length≤1000)(F7:dG w)(hkl:∀x∈M,x.1.length≤1000)(p:cP)(hp:p.length≤1000):
  aQ prog 287 #[.p b,.s p] w fun e w'=>e=.returned (.i (wM root M p))∧dJ w' lo b mb root at_ (zu root M p)∧Kept (·=mb) w w':=by
 obtain⟨r,hr,hq⟩:=T.look (p:=p) (by unfold aM;omega);have q:=hq w rfl;have gM:b<w.heap.size:=aB T.blk;obtain⟨c0,c1,c2⟩:=T.cells;obtain⟨a,n,c,⟨v1,v2,v3,v4,v5,v6,v7,v8⟩⟩:=r;unfold Raw.val Raw.cells eL.cells at q;dsimp only at q;obtain⟨w2,eS⟩:=cG (w.alloc (.cells #[.slice a n c,.u v1,.u v2,.u v3,.i v4,.u v5,.v v6,.v v7,.v v8] 44));have dz:cF w w2:=by rw[eS];exact cR (aq _ w) _
 have hk2:Kept (·=mb) w w2:=by rw[eS];exact(Kept.refl _ w).alloc _
 have lS:=cE eS;have d0:w2.cell? ⟨b,0,none⟩=some (.s root):=(dz.cell (p:=⟨b,0,none⟩) gM).trans c0;have d2:w2.cell? ⟨b,2,none⟩=some (.map (some mb)):=(dz.cell (p:=⟨b,2,none⟩) gM).trans c2;have HT:=cE T;have HT2:=cE (T.below dz);have Wu:=cE hk2;have MZ:=cE (F7.kept dz);have t1:=Cc p root;unfold zu wM;clear hq hr eS dz hk2 F7 T;by_cases h1:p=root
 ·rw[if_pos h1]
  rw[show decide (p=root)=true by simpa using h1] at t1;clear h1;go_enter func287,ntmps287
  go_wp2_with fail
  rw[←lS.out];go_wp2
  go_ret
  exact⟨rfl,by simpa using HT2.out,Wu.out⟩
 rw[if_neg h1];rw[show decide (p=root)=false by simpa using h1] at t1;clear h1;cases hs:(dF p M).isSome with
 |false=>
  rw[hs] at q;rw[if_pos rfl];have HS:=cE hs;clear hs;go_enter func287,ntmps287
  go_wp2_with fail
  rw[←lS.out];go_wp2
  go_ret
  exact⟨rfl,by simpa using HT2.out,Wu.out⟩
 |true=>
 rw[hs] at q;rw[if_neg cN];have HS:=cE hs;have aax:=cE (HT2.out.BH hM MZ.out hkl p);have hkn:(jB root M p).length≤1000:=by
  have h1:(jB root M p).length=_:=(gH _).length_eq;have h2:=I4 root M p;omega
 have HMM:=cE (cD hM hkl);clear hs hM hkl;generalize jB root M p=ks at*;by_cases h0:0<ks.length
 ·rw[if_pos h0]
  have h0d:decide ((0:Int)<(ks.length:Int))=true:=by simpa using h0
  go_enter func287,ntmps287
  go_wp2_with fail
  rw[←lS.out];go_wp2_with fail
  refine aax.out.mono ?_;rintro e w3 ⟨v,rfl,hR,B3⟩;obtain⟨a3,c3,rfl,_⟩:=hR.form;have HX:=cE (cD hR B3);clear hR B3;go_wp2
  go_ret
  obtain⟨hR,B3⟩:=HX.out;refine⟨rfl,by simpa using HT2.out.below B3,Wu.out.trans ⟨B3.os,B3.tape,B3.output,B3.size,fun k hk _=>B3.block k hk⟩⟩
 rw[if_neg h0];have h0d:decide ((0:Int)<(ks.length:Int))=false:=by simpa using h0
 go_enter func287,ntmps287
 go_wp2_with fail
 rw[←lS.out];go_wp2_with fail
 refine aax.out.mono ?_;rintro e w3 ⟨v,rfl,hR,B3⟩;obtain⟨a3,c3,rfl,_⟩:=hR.form;have EH:=HT2.out.below B3;obtain⟨e0,e1,e2⟩:=EH.cells;obtain⟨m3,BM,hl3⟩:=EH.map;obtain⟨lk,hlk⟩:=AF (p:=p) (by unfold aM;omega);obtain⟨o,ho⟩:=BM.drop oK uo underlying120 hlk;have qd:=fun ty=>(ho w3 ty rfl).1
 have hd:=(ho w3 0 rfl).2;unfold sv at qd;have hks:Kept (·=mb) w3 (aX w3 mb o):=jC BM.lt o;have hT4:=EH.SJ hks hd (hl3.del p) EH.ne;have Da:Kept (·=mb) w (aX w3 mb o):=(Wu.out.trans ⟨B3.os,B3.tape,B3.output,B3.size,fun k hk _=>B3.block k hk⟩).trans hks;have HX:=cE (cD hT4 Da);clear hR B3 EH e0 e1 BM hl3 hlk ho hd hks hT4 Da;go_wp2
 go_ret
 obtain⟨hT4,Da⟩:=HX.out;exact⟨rfl,by simpa using hT4,Da⟩
end
theorem jW(p:cP)(hp:p.length≤1000):(cW p).length≤1000:=by
 unfold cW;split
 ·simp
 rename_i L hL
 split
 ·exact hp
 have:=AE hL (L.length - 1);rw[←List.dropLast_eq_take] at this;omega
theorem Kept.eH{S:Nat→Prop}{a b:ah}(h:cF a b):Kept S a b:=⟨h.os,h.tape,h.output,h.size,fun k hk _=>h.block k hk⟩
theorem Lo{a b:cP}{r:Bool}(h:decide (a=b)=r):((bs a).toList==(bs b).toList)=r∧(!((bs a).toList==(bs b).toList))=!r:=by
 rw[Cc,h];exact⟨rfl,rfl⟩
theorem nine{w:ah}{B:Nat}{u0 u1 u2 u3 u4 u5 u6 u7 u8:aI}{t:aU}(h:w.heap[B]?=some (.cells #[u0,u1,u2,u3,u4,u5,u6,u7,u8] t (0,0))):
  w.cell? ⟨B,0,none⟩=some u0∧w.cell? ⟨B,1,none⟩=some u1∧w.cell? ⟨B,2,none⟩=some u2∧w.cell? ⟨B,3,none⟩=some u3∧w.cell? ⟨B,4,none⟩=some u4∧w.cell? ⟨B,5,none⟩=some u5∧w.cell? ⟨B,6,none⟩=some u6∧w.cell? ⟨B,7,none⟩=some u7∧w.cell? ⟨B,8,none⟩=some u8:=
 ⟨af _ _ 0 _ t (0,0) h,af _ _ 1 _ t (0,0) h,af _ _ 2 _ t (0,0) h,af _ _ 3 _ t (0,0) h,af _ _ 4 _ t (0,0) h,af _ _ 5 _ t (0,0) h,af _ _ 6 _ t (0,0) h,af _ _ 7 _ t (0,0) h,af _ _ 8 _ t (0,0) h⟩
theorem Ms{W w5:ah}(h:Below W.drew.heap.size W.drew w5):cF W w5:=⟨h.os,h.tape,h.output,h.size,h.block⟩
theorem acu{W w5:ah}{o:Obj}(h:Below (W.drew.alloc o).heap.size (W.drew.alloc o) w5):cF W w5:=by
 have h1:cF W (W.drew.alloc o):=(aq _ W).drew.alloc (an _) _;exact h1.trans (h.mono h1.size)
theorem aeC{W w5:ah}{u0 u1 u2 u3 u4 u5 u6 u7 u8:aI}{t:aU}(h:Below (W.drew.alloc (.cells #[u0,u1,u2,u3,u4,u5,u6,u7,u8] t)).heap.size (W.drew.alloc (.cells #[u0,u1,u2,u3,u4,u5,u6,u7,u8] t)) w5):
  w5.heap[W.heap.size]?=some (.cells #[u0,u1,u2,u3,u4,u5,u6,u7,u8] t (0,0)):=
 (h.block W.heap.size (by rw[aJ];exact Nat.lt_succ_self W.heap.size)).trans (aH W.drew _)
theorem JE{B:Nat}{W w5:ah}(h:Below B W w5)(j:Nat)(v:aI):Below B W (w5.setCell ⟨B,j,none⟩ v):=h.setCell (an _) v
theorem frozen0{w:ah}{B:Nat}{cs:Array aI}{t:aU}(h:w.heap[B]?=some (.cells cs t (0,0))):∀j,w.frozen? ⟨B,j,none⟩=false:=fun j=>by simp[World.frozen?,h]
def amH(w2:ah)(r2:Bool)(t10:aI)(wc:ah):Prop:=t10=.bool r2∧cF w2 wc
def Bg(root:cP)(M:List (cP×Nd))(p:cP):Int:=if p≠root∧(dF (cW p) M).isSome=false then 31 else if (dF p M).isSome=false∧48≤M.length then 36 else 0
def Hw(root:cP)(M:List (cP×Nd))(p:cP)(d:Nd):List (cP×Nd):=if Bg root M p=0 then iH p d M else M
abbrev JM(lo:Nat→Prop)(n:Nat):Nat→Prop:=fun k=>lo k∨n≤k
def YN(lo:Nat→Prop)(b mb:Nat)(root:cP)(at_:Int)(M:List (cP×Nd))(w:ah)(x:Int)(e:Ending)(w':ah):Prop:=
 e=.returned (.i x)∧dJ w' (JM lo w.heap.size) b mb root at_ M∧Kept (·=mb) w w'
section
variable{w:World}{lo:Nat→Prop}{b mb:Nat}{root:cP}{at_:Int}{M:List (cP×Nd)}
theorem dJ.wide(T:dJ w lo b mb root at_ M){lo':Nat→Prop}(h:∀k,lo k→lo' k):dJ w lo' b mb root at_ M:=by
 obtain⟨m,h1,h2⟩:=T.map;exact⟨T.blk,m,h1,h2.imp fun _ _ hr=>hr.mono h⟩
theorem dJ.setAt(T:dJ w lo b mb root at_ M)(p:cP)(hp:p.length≤1000){w7:ah}(B7:cF w w7)(r:Raw)(d:Nd)(R7:Reads w7 (fQ w.heap.size) r d):
  ∃o,(Instr.mapUpdate 120 (.map (some mb)) (.s p) r.val).run prog w7=.ok () (aX w7 mb o)∧
   Hid (dJ (aX w7 mb o) (JM lo w.heap.size) b mb root at_ (iH p d M)∧Kept (·=mb) w (aX w7 mb o)):=by
 have T7:=T.below B7;obtain⟨m,hm,hl⟩:=T7.map;obtain⟨lk,hlk⟩:=AF (p:=p) (by unfold aM;omega);obtain⟨o,ho⟩:=hm.update oK uo underlying120 r hlk;obtain⟨h1,h2⟩:=ho w7 rfl;have hk:Kept (·=mb) w7 (aX w7 mb o):=jC hm.lt o;refine⟨o,h1,cE ⟨?_,(Kept.eH B7).trans hk⟩⟩;have hl2:iR w7 (JM lo w.heap.size) m M:=hl.imp fun _ _ h=>h.mono fun k hk=>.inl hk
 exact(T7.wide (lo':=JM lo w.heap.size) (fun k hk=>.inl hk)).SJ hk h2 (hl2.put p (R7.mono fun k hk=>.inr hk)) T7.ne
theorem dJ.W9(T:dJ w lo b mb root at_ M)(F7:dG w)(p:cP)(hp:p.length≤1000)(r:Raw)(d:Nd){lr:Nat→Prop}(hr:Reads w lr r d)(hdl:d.data.length≤1000000):
  aQ prog 288 #[.p b,.s p,r.val] w (YN lo b mb root at_ (Hw root M p d) w (Bg root M p)):=by
 obtain⟨r1,hroot⟩:∃r1,decide (p=root)=r1:=⟨_,rfl⟩;obtain⟨r2,hpar⟩:∃r2,(dF (cW p) M).isSome=r2:=⟨_,rfl⟩;obtain⟨r3,his⟩:∃r3,(dF p M).isSome=r3:=⟨_,rfl⟩;have hE:Bg root M p=if r1=false∧r2=false then 31 else if r3=false∧48≤M.length then 36 else 0:=by
  unfold Bg;rw[hpar,his,←hroot];simp
 unfold Hw;rw[hE];clear hE;obtain⟨rp,hrp,hq⟩:=T.look (p:=p) (by unfold aM;omega);have hpl:=jW p hp;obtain⟨rq,hrq,hqq⟩:=T.look (p:=cW p) (by unfold aM;omega);have gM:b<w.heap.size:=aB T.blk;obtain⟨c0,c1,c2⟩:=T.cells;obtain⟨a,n,c,⟨v1,v2,v3,v4,v5,v6,v7,v8⟩⟩:=r;obtain⟨a1,n1,c1',⟨x1,x2,x3,x4,x5,x6,x7,x8⟩⟩:=rp;obtain⟨a2,n2,c2',⟨y1,y2,y3,y4,y5,y6,y7,y8⟩⟩:=rq;obtain⟨w1,hw1⟩:=cG (w.alloc (.cells #[.slice a n c,.u v1,.u v2,.u v3,.i v4,.u v5,.v v6,.v v7,.v v8] 44));have de:cF w w1:=by rw[hw1];exact cR (aq _ w) _
 have hs1:w1.heap.size=w.heap.size+1:=by rw[hw1];simp
 have g1:w1.heap[w.heap.size]?=some (.cells #[.slice a n c,.u v1,.u v2,.u v3,.i v4,.u v5,.v v6,.v v7,.v v8] 44 (0,0)):=by rw[hw1];exact aH w _
 have T1:=T.below de;have afS:w1.heap[mb]?=w.heap[mb]?:=by obtain⟨m0,hm0,_⟩:=T.map;exact de.block _ hm0.lt
 have q1:=hq w1 afS;unfold Raw.val Raw.cells eL.cells at q1 hqq;unfold Raw.val Raw.cells eL.cells;dsimp only at q1 hqq⊢;have c01:w1.cell? ⟨b,0,none⟩=some (.s root):=T1.cells.1;have MK:w1.cell? ⟨b,2,none⟩=some (.map (some mb)):=T1.cells.2.2;obtain⟨w2,eS⟩:=cG (w1.alloc (.cells #[.slice a1 n1 c1',.u x1,.u x2,.u x3,.i x4,.u x5,.v x6,.v x7,.v x8] 44));have uG:cF w1 w2:=by rw[eS];exact cR (aq _ w1) _
 have dz:cF w w2:=de.trans (uG.mono de.size);have g2:w2.heap[w.heap.size]?=some (.cells #[.slice a n c,.u v1,.u v2,.u v3,.i v4,.u v5,.v v6,.v v7,.v v8] 44 (0,0)):=(uG.block _ cL).trans g1;have T2:=T.below dz;have e0:w2.cell? ⟨b,0,none⟩=some (.s root):=T2.cells.1;have e2:w2.cell? ⟨b,2,none⟩=some (.map (some mb)):=T2.cells.2.2;have Yh:b<w2.heap.size:=aB T2.blk;have HQQ:=cE hqq;have al8:=cE (tV (F7.kept dz) p hp);have afR:w2.heap[mb]?=w.heap[mb]?:=by obtain⟨m0,hm0,_⟩:=T.map;exact dz.block _ hm0.lt
 have afP:mb<w2.heap.size:=by obtain⟨m0,hm0,_⟩:=T2.map;exact hm0.lt
 have ami:=cE afR;have iG:=cE dz;have HT:=cE T;have Y1:=cE g2;have me:=cE hw1;have lS:=cE eS;have HR:=cE hr;obtain⟨ne1,ne2⟩:=Lo hroot;rw[hw1] at q1;rw[his] at q1;rw[hpar] at HQQ;clear his hpar hq hqq hw1 eS de uG dz hs1 g1 g2 T1 T2 afS afR T hrp hrq hr hpl F7 c1 hroot c01 MK;go_enter func288,ntmps288
 go_wp2_with fail
 rw[←me.out,←lS.out];clear c0 c2 q1;go_cut [10] (fun t10 wc=>amH w2 r2 t10 wc)
 case first=>
  go_region_with (go_at_call 54;refine(al8.out _ (by first|exact(aq _ _).drew|exact(aq _ _).drew.alloc (an _) _)).mono ?_;rintro e w5 ⟨rfl,B5⟩;have B5w:cF w2 w5:=(by first|exact Ms B5|exact acu B5);have ct:w5.cell? ⟨b,2,none⟩=some (.map (some mb)):=(B5w.cell (p:=⟨b,2,none⟩) Yh).trans e2;have Dd:=aE Yh B5w.size;have hm5:w5.heap[mb]?=w.heap[mb]?:=(B5w.block mb afP).trans ami.out;have q5:=HQQ.out w5 hm5;have q6:=(fun o=>HQQ.out (w5.alloc o) ((heap_alloc_old _ _ (aE afP B5w.size)).trans hm5));(first|(have hn9:=aeC B5;obtain⟨k0,k1,k2,k3,k4,k5,k6,k7,k8⟩:=nine hn9;have kf:=frozen0 hn9;clear hn9)|skip))
  all_goals
   have X5:=cE B5w;clear B5 B5w hm5 q5 q6 ct;go_wp2
   go_meet
   refine⟨rfl,?_⟩;have hs5:=X5.out.size
   repeat (first|(with_reducible exact X5.out)|(with_reducible refine JE ?_ _ _)|(with_reducible refine Below.alloc ?_ hs5 _))
 obtain⟨rfl,Ge⟩:=hcut;have QS:cF w wc:=iG.out.trans (Ge.mono iG.out.size);have f0:wc.cell? ⟨b,0,none⟩=some (.s root):=(Ge.cell (p:=⟨b,0,none⟩) Yh).trans e0;have f2:wc.cell? ⟨b,2,none⟩=some (.map (some mb)):=(Ge.cell (p:=⟨b,2,none⟩) Yh).trans e2;have Wp:=cE (HT.out.below QS);have afV:w.heap.size<w2.heap.size:=aB Y1.out;have VK:=cE ((Ge.block _ afV).trans Y1.out);have VO:=cE QS;have Ws:=cE (HR.out.below QS);clear Ge QS e0 e2;have HMl:=cE Wp.out.map;obtain⟨m6,hm6,RQ⟩:=HMl.out;have ql:=fun ty=>hm6.Fw underlying120 ty
 rw[RQ.len] at ql;clear HMl hm6 RQ;have zl:(r1=false∧r2=false)∨((r1=true∨r1=false∧r2=true)∧r3=false∧48≤M.length)∨((r1=true∨r1=false∧r2=true)∧r3=true)∨((r1=true∨r1=false∧r2=true)∧r3=false∧M.length<48):=by
  cases r1<;>cases r2<;>cases r3<;>simp<;>omega
 rcases zl with ⟨rfl,rfl⟩|⟨hr,rfl,hf⟩|⟨hr,rfl⟩|⟨hr,rfl,hf⟩
 ·simp only[aS,aV] at ne2
  go_wp2
  go_ret
  exact⟨rfl,by simpa using Wp.out.wide (fun k h=>.inl h),Kept.eH VO.out⟩
 ·have hfd:decide ((48:Int)≤(M.length:Int))=true:=by simpa using (by omega:(48:Int)≤(M.length:Int))
  have HF:=cE hf;clear hf;rcases hr with rfl|⟨rfl,rfl⟩
  all_goals
   simp only[aS,aV] at ne2;go_wp2
   go_ret
   exact⟨by simp[HF.out],by simpa [HF.out] using Wp.out.wide (fun k h=>.inl h),Kept.eH VO.out⟩
 ·rcases hr with rfl|⟨rfl,rfl⟩
  all_goals
   simp only[aS,aV] at ne2;go_wp2_with fail
   obtain⟨k0,k1,k2,k3,k4,k5,k6,k7,k8⟩:=nine VK.out;have Gc:b<wc.heap.size:=aB Wp.out.blk;have akx:w.heap.size<wc.heap.size:=aB VK.out;have VG:=cE (FH wc.drew lr ⟨a,n,c,⟨v1,v2,v3,v4,v5,v6,v7,v8⟩⟩ d ⟨Ws.out.num,Ws.out.len,Ws.out.data,Ws.out.nil⟩ hdl);have HHP:=cE hp;clear hp hdl ql ne1 ne2 f0;go_region_with (go_at_call 205;refine VG.out.mono ?_;rintro e w7 ⟨r9,rfl,R7,B7,_⟩;have B7w:=Ms B7;have j2:w7.cell? ⟨b,2,none⟩=some (.map (some mb)):=(B7w.cell (p:=⟨b,2,none⟩) Gc).trans f2;obtain⟨o7,q7,HX⟩:=Wp.out.setAt p HHP.out B7w r9 d R7;clear R7 B7w)
   all_goals
    clear B7 q7 j2;go_wp2
    go_ret
    exact⟨rfl,by simpa using HX.out.1.wide (fun k h=>h.imp_right (ay VO.out.size)),(Kept.eH VO.out).trans HX.out.2⟩
 have hfd:decide ((48:Int)≤(M.length:Int))=false:=by simpa using (by omega:(M.length:Int)<48)
 have HF:=cE hf;have afM:¬48≤M.length:=by omega
 have HF2:=cE afM;clear hf afM;rcases hr with rfl|⟨rfl,rfl⟩
 all_goals
  simp only[aS,aV] at ne2;go_wp2_with fail
  obtain⟨k0,k1,k2,k3,k4,k5,k6,k7,k8⟩:=nine VK.out;have Gc:b<wc.heap.size:=aB Wp.out.blk;have akx:w.heap.size<wc.heap.size:=aB VK.out;have VG:=cE (FH wc.drew lr ⟨a,n,c,⟨v1,v2,v3,v4,v5,v6,v7,v8⟩⟩ d ⟨Ws.out.num,Ws.out.len,Ws.out.data,Ws.out.nil⟩ hdl);have HHP:=cE hp;clear hp hdl ql ne1 ne2 f0;go_region_with (go_at_call 205;refine VG.out.mono ?_;rintro e w7 ⟨r9,rfl,R7,B7,_⟩;have B7w:=Ms B7;have j2:w7.cell? ⟨b,2,none⟩=some (.map (some mb)):=(B7w.cell (p:=⟨b,2,none⟩) Gc).trans f2;obtain⟨o7,q7,HX⟩:=Wp.out.setAt p HHP.out B7w r9 d R7;clear R7 B7w)
  all_goals
   clear B7 q7 j2;go_wp2
   go_ret
   exact⟨by simp[HF2.out],by simpa [HF2.out] using HX.out.1.wide (fun k h=>h.imp_right (ay VO.out.size)),(Kept.eH VO.out).trans HX.out.2⟩
end
structure gh where
 path:cP
 gone:Bool
 node:Nd
 deriving DecidableEq
structure kP(w:ah)(lo:Nat→Prop)(r:cZ)(e:gh):Prop where
 path:r.path=e.path
 gone:r.gone=e.gone
 node:Reads w lo r.node e.node
theorem kP.below{w w':ah}{lo:Nat→Prop}{r:cZ}{d:gh}(h:kP w lo r d)(hb:cF w w'):kP w' lo r d:=⟨h.path,h.gone,h.node.below hb⟩
def eV(w:ah)(lo:Nat→Prop)(L:List cZ)(E:List gh):Prop:=L.length=E.length∧∀(k:Nat) (r:cZ) (e:gh),L[k]?=some r→E[k]?=some e→kP w lo r e
theorem eV.below{w w':ah}{lo:Nat→Prop}{L:List cZ}{E:List gh}(h:eV w lo L E)(hb:cF w w'):eV w' lo L E:=⟨h.1,fun k r e h1 h2=>(h.2 k r e h1 h2).below hb⟩
def gC(w:ah)(B:Nat)(ao:Option aW)(L:List cZ):Prop:=∀k r,L[k]?=some r→∃b off,ao=some ⟨b,off,none⟩∧b<B∧w.rangeAt b (off+k*11) r.cells
theorem gC.below{w w':ah}{B:Nat}{ao:Option aW}{L:List cZ}(h:gC w B ao L)(hb:Below B w w'):gC w' B ao L:=fun k r hk=>by
 obtain⟨b,off,h1,h2,h3⟩:=h k r hk;exact⟨b,off,h1,h2,dA h3 hb h2⟩
theorem gC.mono{w:ah}{B B':Nat}{ao:Option aW}{L:List cZ}(h:gC w B ao L)(hB:B≤B'):gC w B' ao L:=fun k r hk=>by
 obtain⟨b,off,h1,h2,h3⟩:=h k r hk;exact⟨b,off,h1,by omega,h3⟩
def kW(root:cP)(M:List (cP×Nd))(e:gh):Int:=if dX e.path root=false then 30 else if e.gone=true then wM root M e.path else Bg root M e.path
def nF(root:cP)(M:List (cP×Nd))(e:gh):List (cP×Nd):=if dX e.path root=false then M else if e.gone=true then zu root M e.path else Hw root M e.path e.node
def dM(root:cP):List (cP×Nd)→List gh→Int×List (cP×Nd)
 |M,[]=>(0,M)
 |M,e::l=>if kW root M e=0 then dM root (nF root M e) l else (kW root M e,M)
theorem jh{root:cP}{M:List (cP×Nd)}{e:gh}{l:List gh}(h:kW root M e=0):dM root M (e::l)=dM root (nF root M e) l:=if_pos h
theorem uQ{root:cP}{M:List (cP×Nd)}{e:gh}{l:List gh}(h:kW root M e≠0):dM root M (e::l)=(kW root M e,M):=if_neg h
theorem zK(root:cP)(e:gh):∀(l:List gh) (M:List (cP×Nd)),(dM root M l).1=0→dM root M (l++[e])=if kW root (dM root M l).2 e=0 then (0,nF root (dM root M l).2 e) else (kW root (dM root M l).2 e,(dM root M l).2)
 |[],M,_=>rfl
 |x::l,M,h=>by
  rw[bu];by_cases h0:kW root M x=0
  ·have hx:=jh (l:=l) h0
   have hx2:=jh (l:=l++[e]) h0;rw[hx] at h;rw[hx2,zK root e l _ h];simp only[hx]
  ·rw[uQ h0] at h
   exact absurd h h0
theorem zJ(root:cP)(l2:List gh):∀(l:List gh) (M:List (cP×Nd)),(dM root M l).1≠0→dM root M (l++l2)=dM root M l
 |[],M,h=>by simp[dM] at h
 |x::l,M,h=>by
  simp only[bu,dM] at h⊢;split at h
  ·rename_i h0
   rw[if_pos h0,if_pos h0];exact zJ root l2 l _ h
  ·rename_i h0
   rw[if_neg h0,if_neg h0]
structure Fit(M:List (cP×Nd)):Prop where
 len:M.length≤48
 path:∀x∈M,x.1.length≤1000
 data:∀x∈M,x.2.data.length≤1000000
structure CB(e:gh):Prop where
 path:e.path.length≤1000
 data:e.node.data.length≤1000000
theorem rA{p:cP}{d:Nd}:∀{M:List (cP×Nd)} {x:cP×Nd},x∈iH p d M→x=(p,d)∨x∈M
 |[],x,h=>by simp[iH] at h;exact .inl h
 |y::M,x,h=>by
  unfold iH at h;split at h
  ·rcases List.mem_cons.1 h with h|h
   ·exact .inl h
   ·exact .inr (aR _ h)
  ·rcases List.mem_cons.1 h with h|h
   ·exact .inr (h▸bW ..)
   ·rcases rA h with h|h
    ·exact .inl h
    ·exact .inr (aR _ h)
theorem rD{p:cP}{d:Nd}:∀{M:List (cP×Nd)},(iH p d M).length=if (dF p M).isSome then M.length else M.length+1
 |[]=>by simp[iH,dF]
 |y::M=>by
  unfold iH dF;split
  ·simp
  ·rw[List.length_cons,rD]
   split<;>simp
theorem nP{p:cP}:∀{M:List (cP×Nd)},(oR p M).Sublist M
 |[]=>List.Sublist.refl _
 |y::M=>by
  unfold oR;split
  ·exact List.sublist_cons_self _ _
  ·exact nP.cons_cons _
theorem Fit.one{root:cP}{M:List (cP×Nd)}(h:Fit M){e:gh}(he:CB e):Fit (nF root M e):=by
 unfold nF;split
 ·exact h
 split
 ·unfold zu
  split
  ·exact⟨ay (nP.length_le) h.len,fun x hx=>h.path x (nP.subset hx),fun x hx=>h.data x (nP.subset hx)⟩
  exact h
 unfold Hw;split
 ·rename_i h0
  refine⟨?_,fun x hx=>?_,fun x hx=>?_⟩
  ·rw[rD]
   unfold Bg at h0;split at h0
   ·cases h0
   split at h0
   ·cases h0
   rename_i h2
   have:=h.len;split
   ·exact h.len
   rename_i h3
   have h3:(dF e.path M).isSome=false:=by simpa using h3
   have:¬48≤M.length:=fun h4=>h2 ⟨h3,h4⟩
   omega
  ·rcases rA hx with rfl|hx
   ·exact he.path
   exact h.path x hx
  rcases rA hx with rfl|hx
  ·exact he.data
  exact h.data x hx
 exact h
theorem Fit.all{root:cP}:∀{E:List gh} {M:List (cP×Nd)},Fit M→(∀e∈E,CB e)→Fit (dM root M E).2
 |[],M,h,_=>h
 |e::E,M,h,hE=>by
  unfold dM;split
  ·exact Fit.all (h.one (hE e (bW ..))) (fun x hx=>hE x (aR _ hx))
  ·exact h
end
def kD(l:cP):cP:=match Bk l with
 |none=>[]
 |some L=>if L=[] then l else zX L.dropLast
theorem nD(l:cP):cW l=kD l:=by unfold cW kD;rw[sE];rfl
def C6(root p q:cP):Bool:=!decide (q=p)&&!decide (q=root)&&decide (kD q=p)
theorem NO(root p q:cP):rJ root p q=C6 root p q:=by unfold rJ C6;rw[nD]
theorem Lz(root:cP)(M:List (cP×Nd))(p:cP):(jB root M p).length=(M.filter fun x=>rJ root p x.1).length:=by
 have h1:(jB root M p).length=_:=(gH _).length_eq;rw[h1,aF];have h2:=((gH (M.map (·.1))).filter (rJ root p)).length_eq;unfold gU;rw[h2,List.filter_map,aF];rfl
theorem I3(root:cP)(M:List (cP×Nd))(p:cP):(0<(jB root M p).length)↔(M.any fun x=>rJ root p x.1)=true:=by
 rw[Lz,List.length_pos_iff_exists_mem,List.any_eq_true];constructor
 ·rintro⟨x,hx⟩
  have:=List.mem_filter.1 hx;exact⟨x,this.1,this.2⟩
 rintro⟨x,h1,h2⟩;exact⟨x,List.mem_filter.2 ⟨h1,h2⟩⟩
def pR:cP:=[47,114]
def PD:cP:=[47,114,47,97]
def M0:List (cP×Nd):=[(pR,iN)]
section
open Go.RowKit Go.Shelf Go.MapKept Go.ChangeMaps Go.Maps Go.Sort
theorem eB.iJ{w w':ah}{lo:Nat→Prop}{hi b:Nat}{a:Option aW}{D:cP}(h:eB w lo hi a D){s:ByteArray}{x:Int}{y:Option Nat}{t:aU}(hb:w.heap[b]?=some (.cells #[.string s,.v x,.map y] t (0,0)))(hk:Kept (·=b) w w')(hw:hi≤w.heap.size):eB w' lo hi a D:=fun j c hj=>by
 obtain⟨g,off,h1,h2,h3,h4⟩:=h j c hj;refine⟨g,off,h1,h2,h3,(hk.cell (p:=⟨g,off+j,none⟩) (aE h3 hw) (fun e=>?_)).trans h4⟩;have e:g=b:=e;subst e;rw[af _ _ (off+j) _ t (0,0) hb] at h4;generalize off+j=k at h4;rcases(show k=0∨k=1∨k=2∨3≤k by omega) with rfl|rfl|rfl|Da
 ·simp at h4
 ·simp at h4
 ·simp at h4
 ·rw[Array.getElem?_eq_none (by simpa using Da)] at h4
  cases h4
theorem Reads.iJ{w w':ah}{lo:Nat→Prop}{b:Nat}{r:Raw}{d:Nd}(h:Reads w lo r d){s:ByteArray}{x:Int}{y:Option Nat}{t:aU}(hb:w.heap[b]?=some (.cells #[.string s,.v x,.map y] t (0,0)))(hk:Kept (·=b) w w'):Reads w' lo r d:=
 ⟨h.num,h.len,(h.data.iJ hb hk (an _)).mono (fun _ h=>h) hk.size,h.nil⟩
theorem RA{root:cP}{M:List (cP×Nd)}{E:List gh}{i:Nat}{e:gh}(h0:(dM root M (E.take i)).1=0)(he:E[i]?=some e):
  (kW root (dM root M (E.take i)).2 e≠0→dM root M E=(kW root (dM root M (E.take i)).2 e,(dM root M (E.take i)).2))∧
  (kW root (dM root M (E.take i)).2 e=0→dM root M (E.take (i+1))=(0,nF root (dM root M (E.take i)).2 e)):=by
 have hs:E.take (i+1)=E.take i++[e]:=by rw[bY,he];rfl
 have h1:=zK root e (E.take i) M h0;refine⟨fun h=>?_,fun h=>?_⟩
 ·rw[if_neg h] at h1
  have h2:=zJ root (E.drop (i+1)) (E.take (i+1)) M (by rw[hs,h1];exact h);rw[List.take_append_drop] at h2;rw[h2,hs,h1]
 rw[hs,h1,if_pos h]
def Fj(lo:Nat→Prop)(b:Nat)(root:cP)(at_:Int)(M:List (cP×Nd))(w:ah)(x:Int×List (cP×Nd))(e:Ending)(w':ah):Prop:=
 ∃uW,e=.returned (.i x.1)∧dJ w' (JM lo w.heap.size) b uW root (if x.1=0 then at_+1 else at_) (if x.1=0 then x.2 else M)∧Kept (·=b) w w'
structure amN(lo:Nat→Prop)(b' uW:Nat)(root:cP)(at_:Int)(M:List (cP×Nd))(E:List gh)(w w1:ah)(i:Nat)(wr:ah):Prop where
 tree:dJ wr (JM lo w.heap.size) b' uW root at_ (dM root M (E.take i)).2
 ok:(dM root M (E.take i)).1=0
 kept:Kept (·=uW) w1 wr
theorem NJ{x:Int}(h:x≠0):(x==0)=false∧(!(x==0))=true:=by simp[h]
theorem eq_int{x:Int}(h:x=0):(x==0)=true∧(!(x==0))=false:=by simp[h]
section
variable{w:World}{lo:Nat→Prop}{b mb:Nat}{root:cP}{at_:Int}{M:List (cP×Nd)}
theorem dJ.swap{lo':Nat→Prop}{b' uW:Nat}{root':cP}{at':Int}{M':List (cP×Nd)}(T:dJ w lo b mb root at_ M)(T':dJ w lo' b' uW root' at' M')(hb:b≠b'):
  dJ ((w.setCell ⟨b,2,none⟩ (.map (some uW))).setCell ⟨b,1,none⟩ (.v (at_+1))) lo' b uW root (at_+1) M'∧Kept (·=b) w ((w.setCell ⟨b,2,none⟩ (.map (some uW))).setCell ⟨b,1,none⟩ (.v (at_+1))):=by
 have hk:Kept (·=b) w ((w.setCell ⟨b,2,none⟩ (.map (some uW))).setCell ⟨b,1,none⟩ (.v (at_+1))):=(((Kept.refl (·=b) w).setCell (p:=⟨b,2,none⟩) rfl _).setCell (p:=⟨b,1,none⟩) rfl _);obtain⟨m,hm,hl⟩:=T'.map;have hbm:uW≠b:=fun e=>by
  obtain⟨es,c,h1,_⟩:=hm;rw[e,T.blk] at h1;cases h1
 refine⟨⟨?_,m,hm.of_block (hk.block _ hm.lt hbm),hl.imp fun r d h=>h.iJ T.blk hk⟩,hk⟩;simp[World.setCell,bP,T.blk]
theorem dJ.sQ(T:dJ w lo b mb root at_ M)(F7:dG w)(hfit:Fit M)(hrl:root.length≤1000)(h0:0≤at_)(h1:at_≤1000000000)(ao:Option aW)(cap:Nat)(L:List cZ)(E:List gh){lr:Nat→Prop}
  (hL:eV w lr L E) (hA:gC w w.heap.size ao L) (hE:∀e∈E,CB e) (hbig:L.length≤1000000):
  aQ prog 249 #[.p b,.slice ao L.length cap] w (Fj lo b root at_ M w (dM root M E)):=by
 obtain⟨N,hN⟩:=cG L.length;have hNE:N=E.length:=hN.trans hL.1;rw[←hN] at hbig⊢;have pZ:=cE T.mV;have HT:=cE T;have Az:=cE (cD hL (cD hA (cD hE (cD hfit (cD F7 (cD hN hNE))))));have gM:b<w.heap.size:=aB T.blk;clear T F7 hfit hL hA hE hN hNE;go_enter func249,ntmps249
 go_wp2_with fail
 refine pZ.out.mono ?_;rintro e w1 ⟨b',uW,rfl,T1,hb',aqk,hne,B1⟩;have zQ:=cE T1;have jk:=cE B1;have hs1:=B1.size;clear T1 B1;go_wp2
 go_loopw [15] (fun p wr=>∃i:Nat,i≤N∧p=.i i∧Hid (amN lo b' uW root at_ M E w w1 i wr))
  (fun p _=>N - (intOf p).toNat)
 case atStart=>
  exact⟨0,by omega,rfl,cE ⟨(zQ.out.wide (fun k h=>.inl h)),rfl,Kept.refl _ _⟩⟩
 obtain⟨i,hi,rfl,HS⟩:=hrel;by_cases hlt:i<N
 ·obtain⟨hL,hA,hE,hfit,F7,hN,hNE⟩:=Az.out
  obtain⟨r,hr⟩:∃r,L[i]?=some r:=⟨_,aK cL⟩;obtain⟨e,he⟩:∃e,E[i]?=some e:=⟨_,aK cL⟩;obtain⟨q1,q2,q3⟩:=hL.2 i r e hr he;obtain⟨bb,off,rfl,iQ,eW⟩:=hA i r hr;have hfe:=hE e (List.mem_of_getElem? he);obtain⟨hno,hyes⟩:=RA (root:=root) (M:=M) HS.out.ok he;obtain⟨S1,S2,S3⟩:=HS.out;have hfi:Fit (dM root M (E.take i)).2:=Fit.all hfit (fun x hx=>hE x (List.mem_of_mem_take hx));obtain⟨p,g,⟨a,n,c,⟨v1,v2,v3,v4,v5,v6,v7,v8⟩⟩⟩:=r;obtain⟨p',g',nd⟩:=e;dsimp only at q1 q2 q3;subst q1 q2;generalize (dM root M (E.take i)).2=Mi at*;have de:Below w.heap.size w1 wr:=S3.below hs1 (fun k h=>by omega);have kA:cF w wr:=jk.out.trans de;have hrw:=dA eW kA iQ;have k0:wr.cell? ⟨bb,off+i*11,none⟩=some (.s p):=hrw 0 _ rfl;have k1:wr.cell? ⟨bb,off+i*11+1,none⟩=some (.bool g):=hrw 1 _ rfl;have k2:wr.cell? ⟨bb,off+i*11+2,none⟩=some (.slice a n c):=hrw 2 _ rfl;have k3:wr.cell? ⟨bb,off+i*11+3,none⟩=some (.u v1):=hrw 3 _ rfl;have k4:wr.cell? ⟨bb,off+i*11+4,none⟩=some (.u v2):=hrw 4 _ rfl;have k5:wr.cell? ⟨bb,off+i*11+5,none⟩=some (.u v3):=hrw 5 _ rfl;have k6:wr.cell? ⟨bb,off+i*11+6,none⟩=some (.i v4):=hrw 6 _ rfl;have k7:wr.cell? ⟨bb,off+i*11+7,none⟩=some (.u v5):=hrw 7 _ rfl;have k8:wr.cell? ⟨bb,off+i*11+8,none⟩=some (.v v6):=hrw 8 _ rfl;have k9:wr.cell? ⟨bb,off+i*11+9,none⟩=some (.v v7):=hrw 9 _ rfl;have Qw:wr.cell? ⟨bb,off+i*11+10,none⟩=some (.v v8):=hrw 10 _ rfl;obtain⟨wa,rL⟩:=cG (wr.alloc (.cells #[.s p,.bool g,.slice a n c,.u v1,.u v2,.u v3,.i v4,.u v5,.v v6,.v v7,.v v8] 93));have hba:cF wr wa:=by rw[rL];exact cR (aq _ wr) _
  have ga:wa.heap[wr.heap.size]?=some (.cells #[.s p,.bool g,.slice a n c,.u v1,.u v2,.u v3,.i v4,.u v5,.v v6,.v v7,.v v8] 93 (0,0)):=by rw[rL];exact aH wr _
  have uC:∀o,(gN wa o).heap[wr.heap.size]?=some (.cells #[.s p,.bool g,.slice a n c,.u v1,.u v2,.u v3,.i v4,.u v5,.v v6,.v v7,.v v8] 93 (0,0)):=fun o=>((gN.below wa o).block _ (aB ga)).trans ga
  have f0:∀o,(gN wa o).cell? ⟨wr.heap.size,0,none⟩=some (.s p):=fun o=>af _ _ 0 _ 93 (0,0) (uC o)
  have f1:∀o,(gN wa o).cell? ⟨wr.heap.size,1,none⟩=some (.bool g):=fun o=>af _ _ 1 _ 93 (0,0) (uC o)
  have f2:∀o,(gN wa o).cell? ⟨wr.heap.size,2,none⟩=some (.slice a n c):=fun o=>af _ _ 2 _ 93 (0,0) (uC o)
  have f3:∀o,(gN wa o).cell? ⟨wr.heap.size,3,none⟩=some (.u v1):=fun o=>af _ _ 3 _ 93 (0,0) (uC o)
  have f4:∀o,(gN wa o).cell? ⟨wr.heap.size,4,none⟩=some (.u v2):=fun o=>af _ _ 4 _ 93 (0,0) (uC o)
  have f5:∀o,(gN wa o).cell? ⟨wr.heap.size,5,none⟩=some (.u v3):=fun o=>af _ _ 5 _ 93 (0,0) (uC o)
  have f6:∀o,(gN wa o).cell? ⟨wr.heap.size,6,none⟩=some (.i v4):=fun o=>af _ _ 6 _ 93 (0,0) (uC o)
  have f7:∀o,(gN wa o).cell? ⟨wr.heap.size,7,none⟩=some (.u v5):=fun o=>af _ _ 7 _ 93 (0,0) (uC o)
  have f8:∀o,(gN wa o).cell? ⟨wr.heap.size,8,none⟩=some (.v v6):=fun o=>af _ _ 8 _ 93 (0,0) (uC o)
  have f9:∀o,(gN wa o).cell? ⟨wr.heap.size,9,none⟩=some (.v v7):=fun o=>af _ _ 9 _ 93 (0,0) (uC o)
  have f10:∀o,(gN wa o).cell? ⟨wr.heap.size,10,none⟩=some (.v v8):=fun o=>af _ _ 10 _ 93 (0,0) (uC o)
  have Ye:∀o,cF wr (gN wa o):=fun o=>hba.trans ((gN.below wa o).mono hba.size)
  have T2:=HT.out.below kA;have akX:b<wr.heap.size:=aB T2.blk;have ft:∀o,(gN wa o).cell? ⟨b,0,none⟩=some (.s root):=fun o=>((Ye o).cell (p:=⟨b,0,none⟩) akX).trans T2.cells.1
  have hmr:dG wr:=F7.kept kA;have KU:=cE ((Gy hmr p root hfe.path hrl).ext hba);have HWA:=cE rL;have HEX:=cE Ye;have HMR:=cE (fun o=>hmr.kept (Ye o));have HQ3:=cE (q3.below kA);have HF:=cE (cD hfe hfi);have rX:=cE (cD S1 (cD S2 S3));have HNY:=cE (cD hno hyes);have RM:=cE kA;clear hL hA hE hfit F7 hN hNE hr he eW hrw hfe hfi S1 S2 S3 hno hyes rL hba ga uC Ye T2 hmr q3 de kA pZ;go_wp2_with fail
  rw[←HWA.out];clear k0 k1 k2 k3 k4 k5 k6 k7 k8 k9 Qw;go_wp2_with fail
  refine lK cK cK ?_
  repeat (go_big_quiet_step (first|(go_at_call 180;exact KU.out _)))
  refine wpQuiet_nil ?_;intro w' hw';obtain⟨oq,LJ⟩:=hw';subst LJ;have ym:=HEX.out oq;have HWB:=cE ym;have agk:cF w (gN wa oq):=RM.out.trans (ym.mono RM.out.size);have M3:=cE agk;have T3:=rX.out.1.below ym;have MX:=cE T3;have j0:=f0 oq;have j1:=f1 oq;have j2:=f2 oq;have j3:=f3 oq;have j4:=f4 oq;have j5:=f5 oq;have j6:=f6 oq;have j7:=f7 oq;have j8:=f8 oq;have j9:=f9 oq;have j10:=f10 oq;have afN:=HMR.out oq;have ahr:=cE afN;have al7:=cE (HQ3.out.below ym);clear f0 f1 f2 f3 f4 f5 f6 f7 f8 f9 f10 ft ym agk T3 afN KU HWA HEX;generalize gN wa oq=wb at*;cases hu:dX p root with
  |false=>
   have hz:kW root Mi ⟨p,g,nd⟩=30:=by unfold kW;rw[if_pos hu]
   have HZ:Hid (kW root Mi ⟨p,g,nd⟩≠0):=cE (by rw[hz];decide);have HZV:=cE hz;clear hu hz;go_wp2
   go_ret
   have hres:=HNY.out.1 HZ.out;rw[HZV.out] at hres;refine⟨mb,by rw[hres];rfl,?_,Kept.eH M3.out⟩;rw[hres,if_neg (show¬(30:Int)=0 by decide),if_neg (show¬(30:Int)=0 by decide)];exact(HT.out.below M3.out).wide (fun k h=>.inl h)
  |true=>
  cases g with
  |true=>
   have hz:kW root Mi ⟨p,true,nd⟩=wM root Mi p:=by unfold kW;rw[if_neg (by rw[hu];decide),if_pos rfl]
   have hzm:nF root Mi ⟨p,true,nd⟩=zu root Mi p:=by unfold nF;rw[if_neg (by rw[hu];decide),if_pos rfl]
   rw[hz,hzm] at HNY;have HG:=cE (MX.out.BV (ay HF.out.2.len cL) ahr.out HF.out.2.path p HF.out.1.path);clear hz hzm hu;go_wp2_with fail
   refine HG.out.mono ?_;rintro e w3 ⟨rfl,T4,K4⟩;have HX:=cE (cD T4 K4);clear T4 K4 HG;generalize wM root Mi p=x at*;by_cases hx:x=0
   ·obtain⟨x1,x2⟩:=eq_int hx
    have xA:=cE hx;clear hx;go_wp2
    go_roundw
    case rel=>
     have hn:=HNY.out.2 xA.out;refine⟨i+1,by omega,by go_num,cE ⟨by rw[hn];exact HX.out.1,by rw[hn],(rX.out.2.2.trans (Kept.eH HWB.out)).trans HX.out.2⟩⟩
    case measure=>simp[intOf];omega
   obtain⟨x1,x2⟩:=NJ hx;have xA:=cE hx;clear hx;go_wp2
   go_ret
   have hres:=HNY.out.1 xA.out;have Uo:cF w w3:=M3.out.trans (HX.out.2.below M3.out.size (fun k h=>by omega));refine⟨mb,by rw[hres];rfl,?_,Kept.eH Uo⟩;rw[hres,if_neg xA.out,if_neg xA.out];exact(HT.out.below Uo).wide (fun k h=>.inl h)
  |false=>
  have hz:kW root Mi ⟨p,false,nd⟩=Bg root Mi p:=by unfold kW;rw[if_neg (by rw[hu];decide),if_neg cN]
  have hzm:nF root Mi ⟨p,false,nd⟩=Hw root Mi p nd:=by unfold nF;rw[if_neg (by rw[hu];decide),if_neg cN]
  rw[hz,hzm] at HNY;have HP:=cE (MX.out.W9 ahr.out p HF.out.1.path ⟨a,n,c,⟨v1,v2,v3,v4,v5,v6,v7,v8⟩⟩ nd al7.out HF.out.1.data);clear hz hzm hu;go_wp2_with fail
  refine HP.out.mono ?_;rintro e w3 ⟨rfl,T4,K4⟩;have HX:=cE (cD T4 K4);clear T4 K4 HP;generalize Bg root Mi p=x at*;by_cases hx:x=0
  ·obtain⟨x1,x2⟩:=eq_int hx
   have xA:=cE hx;clear hx;go_wp2
   go_roundw
   case rel=>
    have hn:=HNY.out.2 xA.out;refine⟨i+1,by omega,by go_num,cE ⟨by rw[hn];exact HX.out.1.wide (fun k h=>h.elim id (fun h=>.inr (ay M3.out.size h))),by rw[hn],(rX.out.2.2.trans (Kept.eH HWB.out)).trans HX.out.2⟩⟩
   case measure=>simp[intOf];omega
  obtain⟨x1,x2⟩:=NJ hx;have xA:=cE hx;clear hx;go_wp2
  go_ret
  have hres:=HNY.out.1 xA.out;have Uo:cF w w3:=M3.out.trans (HX.out.2.below M3.out.size (fun k h=>by omega));refine⟨mb,by rw[hres];rfl,?_,Kept.eH Uo⟩;rw[hres,if_neg xA.out,if_neg xA.out];exact(HT.out.below Uo).wide (fun k h=>.inl h)
 obtain rfl:i=N:=by omega
 obtain⟨hL,hA,hE,hfit,F7,hN,hNE⟩:=Az.out;obtain⟨S1,S2,S3⟩:=HS.out;rw[hNE,List.take_length] at S1 S2;have de:Below w.heap.size w1 wr:=S3.below hs1 (fun k h=>by omega);have kA:cF w wr:=jk.out.trans de;have T2:=HT.out.below kA;obtain⟨c0,c1,c2⟩:=T2.cells;obtain⟨d0,d1,d2⟩:=S1.cells;have fb:∀j,wr.frozen? ⟨b,j,none⟩=false:=frozen0 T2.blk;have HX:=cE (cD S1 (cD S2 (cD kA T2)));have iQ:b≠b':=by omega
 clear hL hA hE hfit F7 hN hNE S1 S2 S3 de kA T2;go_wp2
 go_ret
 obtain⟨S1,S2,kA,T2⟩:=HX.out;obtain⟨t1,t2⟩:=T2.swap S1 iQ;refine⟨uW,by rw[S2];rfl,?_,(Kept.eH kA).trans t2⟩;rw[if_pos S2,if_pos S2];exact t1
end
end
section
open Go.RowKit Go.Lib Go.Sort
theorem Jv(L:List cP):(bL (L.mergeSort fun x y=>decide (x≤y))).length=L.length↔L.Nodup:=by
 have T0:=List.mergeSort_perm L (fun x y=>decide (x≤y));have hsort:=List.pairwise_mergeSort (le:=fun x y=>decide (x≤y)) Eo Ep L;generalize L.mergeSort (fun x y=>decide (x≤y))=S at T0 hsort;rw[←T0.length_eq,←T0.nodup_iff];constructor
 ·intro h
  have hk:∀j,j<S.length→keeps S.toArray j=true:=by
   unfold bL compactUpTo at h;rw[aF] at h;have h2:=(List.length_filter_eq_length_iff (l:=List.range S.length) (p:=keeps S.toArray)).1 (by rw[h,List.length_range]);exact fun j hj=>h2 j (List.mem_range.2 hj)
  rw[List.nodup_iff_pairwise_ne,aO];intro i j hi hj hij e;have h1:=hk (i+1) cL;unfold keeps at h1;have hi1:i+1<S.length:=by omega
  have h2:S[i]≤S[i+1]:=by
   have:=aO.1 hsort i (i+1) hi hi1 cL;simpa using this
  have h3:S[i+1]≤S[j]:=by
   by_cases e2:i+1=j
   ·subst e2;exact List.le_refl _
   have:=aO.1 hsort (i+1) j hi1 hj cL;simpa using this
  have h4:S[i+1]=S[i]:=List.le_antisymm (e▸h3) h2;simp[getElem!_pos,hi,hi1,h4] at h1
 intro h;rw[compact_all];intro j hj;unfold keeps;by_cases h0:j=0
 ·simp[h0]
 have hj1:j - 1<S.length:=by omega
 have hne:S[j]≠S[j - 1]:=by
  intro e;have:=(List.getElem_inj h).1 e;omega
 simp[getElem!_pos,hj,hj1,h0,hne]
theorem IF(L:List cP):(L.map bs).map (·.data.toList)=L:=by
 rw[bN]
 conv=>rhs;rw[←List.map_id L]
 exact List.map_congr_left fun x _=>gr x
theorem below_grow{B:Nat}{a w:ah}(h:Below B a w)(hB:B≤w.heap.size)(os:Array Obj):Below B a (grow w os):=
 h.trans ⟨rfl,rfl,rfl,by simp[grow],fun k hk=>heap_grow_old w os cL⟩
def VU(L:List cP)(w:ah)(e:Ending)(w':ah):Prop:=
 cF w w'∧((L=[]∧∃a c,e=.returned (.slice a 0 c))∨∃g cap,e=.returned (.slice (some ⟨g,0,none⟩) L.length cap)∧w.heap.size≤g∧g<w'.heap.size∧L.length≤cap∧Holds bz w' g 0 L.toArray)
theorem mV(ao:Option aW)(c:Nat)(L:List cP)(w:ah)(hbig:L.length≤1000)(hc:gA w w.heap.size ao L):aQ prog 41 #[.slice ao L.length c] w (VU L w):=by
 cases L with
 |nil=>
  cases ao with
  |none=>exact(slices_Clone_string_nil 0 c w).mono fun e w' ⟨he,hw⟩=>⟨hw▸aq _ _,.inl ⟨rfl,_,_,he⟩⟩
  |some a=>
  refine(slices_Clone_string_zero a c w).mono fun e w' ⟨v',he,hown,_,hb⟩=>⟨hb,.inl ⟨rfl,?_⟩⟩
  rcases hown.2 with ⟨rfl,_⟩|⟨g,cap,cur,rfl,_⟩
  ·exact⟨_,_,he⟩
  exact⟨_,_,he⟩
 |cons x L=>
 obtain⟨b,off,rfl,hb,hx⟩:=hc 0 x rfl;have h:=slices_Clone_string b off (x::L).length c ((x::L).map bs) w cN (by simp at hbig⊢;omega) (fun j hj=>by
  have hj':j<(x::L).length:=by simpa using hj
  obtain⟨b',off',e,_,h2⟩:=hc j ((x::L)[j]) (aK hj');simp at e;obtain⟨rfl,rfl⟩:=e;rw[h2,Gl (x::L) j hj])
 refine h.mono fun e w' ⟨v',he,hown,hnn,hb'⟩=>⟨hb',.inr ?_⟩
 rw[bM cN,←map_encStr,IF] at hown;obtain⟨g,cap,rfl,h1,h2,h3,h4,h5,h6⟩:=holds_of_ownsRow hown hnn;exact⟨g,cap,he,h1,h2,h3,h6⟩
theorem AM(g cap:Nat)(L:List cP)(w0 w:ah)(B:Nat)(hb:Below B w0 w)(hB:B≤g)(hg:g<w.heap.size)(hBw:B≤w.heap.size)(hbig:L.length≤1000)(hH:Holds bz w g 0 L.toArray):
  aQ prog 56 #[.slice (some ⟨g,0,none⟩) L.length cap] w fun e w'=>e=.returned (.tuple #[])∧Below B w0 w'∧g<w'.heap.size∧Holds bz w' g 0 (L.mergeSort fun x y=>decide (x≤y)).toArray:=by
 refine(slices_Sort_string g 0 cap L w hH hg cL).mono ?_;rintro e w' ⟨rfl,n,os,rfl⟩;have hsz:g<(aT bz (aG w n) g 0 (L.mergeSort fun x y=>decide (x≤y)).toArray).heap.size:=by simpa [aT,aY,aG] using hg
 refine⟨rfl,?_,?_,?_⟩
 ·exact below_grow (Lib.below_putRow hb hB) (by simpa [aT,aY,aG] using hBw) os
 ·simp[grow];omega
 exact holds_grow _ _ os g 0 _ hsz (holds_putRow _ _ g 0 _ _ (holds_ahead _ w n g 0 _ hH) cN)
theorem Pb(a:Option aW)(cap:Nat)(w:ah):aQ prog 56 #[.slice a 0 cap] w fun e w'=>e=.returned (.tuple #[])∧w'=w:=slices_Sort_string_none a cap w
theorem zF(g cap:Nat)(S:List cP)(w0 w:ah)(B:Nat)(hb:Below B w0 w)(hB:B≤g)(hbig:S.length≤1000)(hcap:S.length≤cap)(hH:Holds bz w g 0 S.toArray):
  aQ prog 102 #[.slice (some ⟨g,0,none⟩) S.length cap] w fun e w'=>e=.returned (.slice (some ⟨g,0,none⟩) (bL S).length cap)∧Below B w0 w':=by
 refine(slices_Compact_string g 0 cap S w hH cL hcap).mono ?_;rintro e w' ⟨rfl,q,rfl⟩;exact⟨rfl,Lib.below_putRow hb hB⟩
theorem MF(x:cP)(hx:x.length≤1000)(w:ah)(hm:dG w):aQ prog 103 #[.s x] w fun e w'=>e=.returned (.bool (!(dx x).isSome))∧cF w w':=by
 have c1:=rH w hm x hx w (aq _ _);unfold uO at c1;clear hm;generalize (dx x).isSome=b at*;cases b
 all_goals
  go_enter func103,ntmps103
  go_wp2_with (go_at_call 104;refine c1.mono ?_;rintro e w1 ⟨rfl,B1⟩)
  go_ret
  exact⟨rfl,B1⟩
theorem Gt(ao:Option aW)(c:Nat)(L:List cP)(w:ah)(hm:dG w)(hbig:L.length≤1000)(hL:∀r∈L,r.length≤1000)(hc:gA w w.heap.size ao L):
  aQ prog 40 #[.slice ao L.length c] w fun e w'=>e=.returned (.i (mz L))∧cF w w':=by
 have h1:=mV ao c L w hbig hc;have HC:=cE hc;have HM:=cE hm;have HLL:=cE hL;have Du:=cE hbig;clear hc hm hL;by_cases h0:L.length<1
 ·obtain rfl:L=[]:=bA cL
  have hv:mz []=1:=by decide
  rw[hv];clear hv h0 hbig;have H1:=cE h1;clear h1;go_enter func40,ntmps40
  go_wp2_with fail
  refine H1.out.mono ?_;rintro e w1 ⟨B1,⟨_,a,c1,rfl⟩|⟨g,cap,rfl,_,_,_,_⟩⟩
  all_goals
   have HB:=cE B1;clear B1;go_wp2_with (go_at_call 56;refine(Pb _ _ _).mono ?_;rintro e w2 ⟨rfl,rfl⟩)
   go_ret
   exact⟨rfl,HB.out⟩
 have hne:L≠[]:=by rintro rfl;simp at h0
 have H1:=cE h1;clear h1;by_cases h4:4<L.length
 ·have hv:mz L=1:=by unfold mz;rw[if_pos (.inr (.inl h4))]
  rw[hv];clear hv;obtain⟨N,hN⟩:=cG L.length;have HN:=cE hN;have HNE:=cE hne;rw[←hN] at h0 h4 hbig⊢;rw[←hN] at H1;have d1:decide ((N:Int)<1)=false:=by simp;omega
  have d2:decide (4<(N:Int))=true:=by simp;omega
  clear hN hne;go_enter func40,ntmps40
  go_wp2_with fail
  refine H1.out.mono ?_;rintro e w1 ⟨B1,⟨hnil,_⟩|⟨g,cap,rfl,uD,hg2,hcap,hH⟩⟩
  ·exact absurd hnil HNE.out
  have hs:=AM g cap L w w1 w.heap.size B1 uD hg2 B1.size Du.out hH;have HS:=cE hs;rw[←HN.out] at HS;rw[←HN.out];clear hs B1 hH hcap;go_wp2_with fail
  refine HS.out.mono ?_;rintro e w2 ⟨rfl,B2,_,_⟩;have HB:=cE B2;clear B2;go_wp2
  go_ret
  exact⟨rfl,HB.out⟩
 have hcl:=Jv L;have GL:(L.mergeSort fun x y=>decide (x≤y)).length=L.length:=List.length_mergeSort _;obtain⟨N,hN⟩:=cG L.length;have HN:=cE hN;have HNE:=cE hne;have akQ:(bL (L.mergeSort fun x y=>decide (x≤y))).length≤L.length:=by
  rw[←GL];unfold bL compactUpTo;rw[aF];exact ay (bT _ _) cN
 obtain⟨M,hM⟩:=cG ((bL (L.mergeSort fun x y=>decide (x≤y))).length);have Ag:=cE GL;rw[←hM,←hN] at hcl akQ;rw[←hN] at h0 h4 hbig⊢;rw[←hN] at H1;have MZ:=cE hM;have d1:decide ((N:Int)<1)=false:=by simp;omega
 have d2:decide (4<(N:Int))=false:=by simp;omega
 clear hN hne GL hM;by_cases hnd:L.Nodup
 ·have hMN:=hcl.2 hnd
  have hv:mz L=if L.all (fun x=>(dx x).isSome) then 0 else 30:=by unfold mz;rw[if_neg (by rw[←HN.out];rintro(h|h|h);omega;omega;exact h hnd)]
  rw[hv];have agp:(!L.all (fun x=>(dx x).isSome))=L.any (fun x=>!(dx x).isSome):=by rw[List.not_all_eq_any_not]
  have amD:=cE agp;subst hMN;have d3:((M:Int) != (M:Int))=false:=by simp
  clear hcl hnd hv agp;generalize L.all (fun x=>(dx x).isSome)=al at*;go_enter func40,ntmps40
  go_wp2_with fail
  refine H1.out.mono ?_;rintro e w1 ⟨B1,⟨hnil,_⟩|⟨g,cap,rfl,uD,hg2,hcap,hH⟩⟩
  ·exact absurd hnil HNE.out
  have hs:=AM g cap L w w1 w.heap.size B1 uD hg2 B1.size Du.out hH;have HS:=cE hs;rw[←HN.out] at HS;rw[←HN.out] at hcap⊢;clear hs B1 hH;go_wp2_with fail
  refine HS.out.mono ?_;rintro e w2 ⟨rfl,B2,Yd,hH2⟩;have hk:=zF g cap (L.mergeSort fun x y=>decide (x≤y)) w w2 w.heap.size B2 uD (by rw[Ag.out];exact Du.out) (by rw[Ag.out,←HN.out];exact hcap) hH2;rw[Ag.out,←MZ.out,←HN.out] at hk;have HK:=cE hk;clear hk B2 hH2;go_wp2_with fail
  refine HK.out.mono ?_;rintro e w3 ⟨rfl,B3⟩;have mQ:=cE B3;have Jd:=Dn (fun x=>!(dx x).isSome) ao c L w3 Du.out ((HC.out.kept B3).mono B3.size) (fun W hW x hx=>MF x (HLL.out x hx) W (HM.out.kept (B3.trans (hW.mono B3.size))));rw[←HN.out,←amD.out] at Jd;have RL:=cE Jd;clear B3 Jd;cases al
  all_goals
   go_wp2_with fail
   refine RL.out.mono ?_;rintro e w4 ⟨rfl,B4⟩;have GI:=cE (mQ.out.trans (B4.mono mQ.out.size));clear B4;go_wp2
   go_ret
   exact⟨rfl,GI.out⟩
 have hMN:M≠N:=fun h=>hnd (hcl.1 h)
 have hv:mz L=1:=by unfold mz;rw[if_pos (.inr (.inr hnd))]
 rw[hv];have d3:((M:Int) != (N:Int))=true:=by simp;omega
 clear hcl hnd hv;go_enter func40,ntmps40
 go_wp2_with fail
 refine H1.out.mono ?_;rintro e w1 ⟨B1,⟨hnil,_⟩|⟨g,cap,rfl,uD,hg2,hcap,hH⟩⟩
 ·exact absurd hnil HNE.out
 have hs:=AM g cap L w w1 w.heap.size B1 uD hg2 B1.size Du.out hH;have HS:=cE hs;rw[←HN.out] at HS;rw[←HN.out] at hcap⊢;clear hs B1 hH;go_wp2_with fail
 refine HS.out.mono ?_;rintro e w2 ⟨rfl,B2,Yd,hH2⟩;have hk:=zF g cap (L.mergeSort fun x y=>decide (x≤y)) w w2 w.heap.size B2 uD (by rw[Ag.out];exact Du.out) (by rw[Ag.out,←HN.out];exact hcap) hH2;rw[Ag.out,←MZ.out,←HN.out] at hk;have HK:=cE hk;clear hk B2 hH2;go_wp2_with fail
 refine HK.out.mono ?_;rintro e w3 ⟨rfl,B3⟩;have mQ:=cE B3;clear B3;go_wp2
 go_ret
 exact⟨rfl,mQ.out⟩
end
section
open Go.RowKit
theorem To{w w2:ah}{cs:Array aI}{t:aU}(B2:Below (w.alloc (.cells cs t)).heap.size (w.alloc (.cells cs t)) w2)(j:Nat)(v:aI)(h:cs[j]?=some v):w2.cell? ⟨w.heap.size,j,none⟩=some v∧w2.frozen? ⟨w.heap.size,j,none⟩=false:=by
 have hb:w2.heap[w.heap.size]?=some (.cells cs t (0,0)):=(B2.block _ cN).trans (aH w _);exact⟨(af _ _ j _ t (0,0) hb).trans h,by simp[World.frozen?,hb]⟩
theorem tM{w w2:ah}{cs:Array aI}{t:aU}(B2:Below (w.alloc (.cells cs t)).drew.heap.size (w.alloc (.cells cs t)).drew w2)(j:Nat)(v:aI)(h:cs[j]?=some v):w2.cell? ⟨w.heap.size,j,none⟩=some v∧w2.frozen? ⟨w.heap.size,j,none⟩=false:=
 To (w:=w) ⟨B2.os,B2.tape,B2.output,B2.size,B2.block⟩ j v h
def OS(W1 wc:ah)(s:Int)(t9:aI):Prop:=∃nb,t9=.p nb∧W1.heap.size≤nb∧cF W1 wc∧wc.cell? ⟨nb,0,none⟩=some (.i s)
theorem Fa{W1 w2:ah}{s:Int}{t:aU}(hb:cF W1 w2):OS W1 (w2.alloc (.cells #[.i s] t)) s (.p w2.heap.size):=
 ⟨_,rfl,hb.size,hb.alloc hb.size _,af _ _ 0 _ t (0,0) (aH w2 _)⟩
theorem E9{W1 w2:ah}{s:Int}{o:Obj}{v:aI}(hb:Below (W1.alloc o).heap.size (W1.alloc o) w2)(q0:w2.cell? ⟨W1.heap.size,0,none⟩=some v):
  OS W1 (w2.setCell ⟨W1.heap.size,0,none⟩ (.i s)) s (.p W1.heap.size):=
 ⟨_,rfl,an _,(((aq _ W1).alloc (an _) o).trans (hb.mono cN)).setCell (p:=⟨W1.heap.size,0,none⟩) (an _) _,World.cell?_setCell_same' w2 _ _ (by rw[q0];rfl)⟩
theorem mO{B:Nat}{w w2:ah}(h:Below B w.drew w2):Below B w w2:=⟨h.os,h.tape,h.output,h.size,h.block⟩
def jH(L:List cP):List cP→Int×Int
 |[]=>(0,60)
 |x::P=>if Ao L x<0∨(x::P).any (fun y=>Ao L y != Ao L x)=true then (0,60) else (Ao L x,0)
def oU(L:List cP)(p:cP)(Q:List cP):Int×Int:=jH L (if Q=[] then [p] else Q)
structure Vy where
 kind:Int
 da:Option aW
 dn:Nat
 dc:Nat
 gS:Int
 seq:Bool
 mM:Bool
 pa:Option aW
 pn:Nat
 pc:Nat
def Vy.cells(r:Vy)(p:cP):List aI:=[.b r.kind,.s p,.slice r.da r.dn r.dc,.i r.gS,.bool r.seq,.bool r.mM,.slice r.pa r.pn r.pc]
def pX(w:ah)(B:Nat)(ao:Option aW)(Q:List cP):Prop:=
 ∀k p,Q[k]?=some p→∃b off r,ao=some ⟨b,off,none⟩∧b<B∧w.rangeAt b (off+k*7) (Vy.cells r p)
theorem pX.kept{w w':ah}{B:Nat}{ao:Option aW}{Q:List cP}(h:pX w B ao Q)(hb:Below B w w'):pX w' B ao Q:=fun k p hk=>by
 obtain⟨b,off,r,h1,h2,h3⟩:=h k p hk;exact⟨b,off,r,h1,h2,dA h3 hb h2⟩
theorem pX.mono{w:ah}{B B':Nat}{ao:Option aW}{Q:List cP}(h:pX w B ao Q)(hB:B≤B'):pX w B' ao Q:=fun k p hk=>by
 obtain⟨b,off,r,h1,h2,h3⟩:=h k p hk;exact⟨b,off,r,h1,by omega,h3⟩
theorem pX.later{w w':ah}{ao:Option aW}{Q:List cP}(h:pX w w.heap.size ao Q)(hb:cF w w'):pX w' w'.heap.size ao Q:=(h.kept hb).mono hb.size
theorem JJ(pl pa:Nat)(s:Int)(ao:Option aW)(c:Nat)(L:List cP)(x:cP)(w:ah)(hm:dG w)(hbig:L.length≤1000)(hx:x.length≤1000)(hL:∀r∈L,r.length≤1000)(hc:gA w w.heap.size ao L)
  (h1:w.cell? ⟨pl,0,none⟩=some (.slice ao L.length c)) (h2:w.cell? ⟨pa,0,none⟩=some (.i s)):
  aQ prog 72 #[.s x,.p pl,.p pa] w fun e w'=>e=.returned (.bool (Ao L x != s))∧cF w w':=by
 have l1:=aA w _ h1;have l2:=aA w _ h2;have f1:∀o,(gN w o).cell? ⟨pl,0,none⟩=some (.slice ao L.length c):=fun o=>((gN.below w o).cell (p:=⟨pl,0,none⟩) l1).trans h1
 have f2:∀o,(gN w o).cell? ⟨pa,0,none⟩=some (.i s):=fun o=>((gN.below w o).cell (p:=⟨pa,0,none⟩) l2).trans h2
 have c1:zO w 70 #[.slice ao L.length c,.s x] (.i (Ao L x)):=fun W hW=>(xX ao c L x W (hm.kept hW) hbig hx hL ((hc.kept hW).mono hW.size)).mono fun e w' ⟨he,hb⟩=>⟨he,hW.trans (hb.mono hW.size)⟩
 have C1:=cE (Qn c1);clear hm hL hc h1 h2 c1;obtain⟨N,hN⟩:=cG L.length;rw[←hN] at hbig f1 C1;clear hN;generalize Ao L x=r at*;go_enter func72,ntmps72
 go_wp2_with fail
 refine lK cK cK ?_
 repeat (go_big_quiet_step (first|(go_at_call 70;exact C1.out _)))
 refine wpQuiet_nil ?_;intro w' hw';obtain⟨oq,LJ⟩:=hw';subst LJ;go_wp2
 go_ret
 exact⟨rfl,gN.below w oq⟩
def GK(r:Int×Int)(w:ah)(e:Ending)(w':ah):Prop:=e=.returned (.tuple #[.i r.1,.i r.2])∧cF w w'
theorem Ov(k0 k2 k3 k4 k5:aI)(ao po:Option aW)(c pc:Nat)(L:List cP)(p:cP)(w:ah)(hm:dG w)(hbig:L.length≤1000)(hp:p.length≤1000)(hL:∀r∈L,r.length≤1000)(hc:gA w w.heap.size ao L):
  aQ prog 28 #[.slice ao L.length c,.agg #[k0,.s p,k2,k3,k4,k5,.slice po 0 pc]] w (GK (oU L p []) w):=by
 obtain⟨N,hN⟩:=cG L.length;have HN:=cE hN;have HC:=cE hc;have HM:=cE hm;have HL:=cE hL;rw[←hN] at hbig⊢;clear hN hc hm hL;obtain⟨W1,zq⟩:=cG (((w.alloc (.cells #[.slice ao N c] 28)).alloc (.cells #[k0,.s p,k2,k3,k4,k5,.slice po 0 pc] 35)).alloc (.cells #[.s p] 9));have Oe:cF w W1:=by rw[zq];exact cR (cR (cR (aq _ w) _) _) _
 have hl:W1.cell? ⟨w.heap.size,0,none⟩=some (.slice ao N c):=by
  rw[zq];rw[((aq (w.heap.size+1) _).alloc cN _ |>.alloc cN _:Below (w.heap.size+1) (w.alloc (.cells #[.slice ao N c] 28)) _).cell (p:=⟨w.heap.size,0,none⟩) cN];exact af _ _ 0 _ 28 (0,0) (aH w _)
 have hP:W1.cell? ⟨w.heap.size+1+1,0,none⟩=some (.s p):=by
  rw[zq];have:=aH ((w.alloc (.cells #[.slice ao N c] 28)).alloc (.cells #[k0,.s p,k2,k3,k4,k5,.slice po 0 pc] 35)) (.cells #[.s p] 9);simp only[aJ] at this;exact af _ _ 0 _ 9 (0,0) this
 have hs1:W1.heap.size=w.heap.size+3:=by rw[zq];simp
 go_enter func28,ntmps28
 go_wp2_with fail
 rw[←zq];clear zq;have jk:=cE Oe;have Uf:w.heap.size<W1.heap.size:=by omega
 have hlt:w.heap.size+1+1<W1.heap.size:=by omega
 have HPS:Hid (gA W1 W1.heap.size (some ⟨w.heap.size+1+1,0,none⟩) [p]):=cE (fun k q hk=>by
  cases k with
  |zero=>simp at hk;subst hk;exact⟨_,_,rfl,hlt,by simpa using hP⟩
  |succ k=>simp at hk)
 have HPL:Hid ([p].length≤1000∧∀y∈[p],y.length≤1000):=cE ⟨by simp,by simpa using hp⟩;have HHD:Hid (∃x0 P0,[p]=x0::P0∧x0=p):=cE ⟨p,[],rfl,rfl⟩;have M4:Hid (oU L p []=jH L [p]):=cE rfl;have hx:p.length≤1000:=hp;clear Oe hs1 hp;have Wh:=fun(W:ah) (hW:cF w W)=>xX ao c L p W (HM.out.kept hW) (by rw[←HN.out];exact hbig) hx HL.out ((HC.out.kept hW).mono hW.size)
 rw[←HN.out] at Wh;have HOF:=cE Wh;have HX:=cE hx;have Du:=cE hbig;clear Wh;generalize hs0:Ao L p=s at*;have YV:=cE hs0;clear hs0;go_cut [9] (fun t9 wc=>OS W1 wc s t9)
 case first=>
  go_region_with (go_at_call 70;refine(HOF.out _ (by repeat (first|exact jk.out|refine Below.drew ?_|refine cR ?_ _))).mono ?_;rintro e w2 ⟨rfl,B2⟩;(first|(obtain⟨q0,q1⟩:=tM B2 0 _ rfl)|skip))
  all_goals
   go_wp2
   go_meet
   case rel=>first|exact Fa (mO B2)|exact E9 (mO B2) q0
 obtain⟨nb,rfl,hnb,hbc,hat⟩:=hcut;have hl2:wc.cell? ⟨w.heap.size,0,none⟩=some (.slice ao N c):=(hbc.cell (p:=⟨w.heap.size,0,none⟩) Uf).trans hl;have uV:=cE (jk.out.trans (hbc.mono jk.out.size));have hps:=HPS.out.kept hbc;have Jd:=zE (fun y=>Ao L y != s) w.heap.size nb (some ⟨w.heap.size+1+1,0,none⟩) 1 [p] wc HPL.out.1 (hps.mono hbc.size) (fun W hW y hy=>JJ w.heap.size nb s ao c L y W (HM.out.kept (uV.out.trans (hW.mono uV.out.size))) (by rw[←HN.out];exact Du.out) (HPL.out.2 y hy) HL.out ((HC.out.kept (uV.out.trans (hW.mono uV.out.size))).mono (ay uV.out.size hW.size))
  (by rw[←HN.out];exact(hW.cell (p:=⟨w.heap.size,0,none⟩) (aE Uf hbc.size)).trans hl2) ((hW.cell (p:=⟨nb,0,none⟩) (aA _ _ hat)).trans hat))
 rw[show([p]:List cP).length=1 from rfl] at Jd;have HV:Hid (jH L [p]=if s<0∨([p]:List cP).any (fun y=>Ao L y != s)=true then (0,60) else (s,0)):=cE (by
  obtain⟨x0,P0,hP0,hx0⟩:=HHD.out;rw[hP0];simp only[jH];rw[hx0,YV.out])
 have RL:=cE Jd;clear Jd hps hbc hl2;by_cases hs:s<0
 ·have d0:decide (s<0)=true:=by simpa using hs
  have HW:Hid (jH L [p]=(0,60)):=cE (by rw[HV.out,if_pos (.inl hs)]);clear HV RL;go_wp2
  go_ret2
  exact⟨by rw[M4.out,HW.out];rfl,uV.out⟩
 have d0:decide (s<0)=false:=by simpa using hs
 cases ha:([p]:List cP).any (fun y=>Ao L y != s) with
 |true=>
  rw[ha] at RL;have HW:Hid (jH L [p]=(0,60)):=cE (by rw[HV.out,if_pos (.inr ha)]);clear HV ha;go_wp2_with fail
  refine RL.out.mono ?_;rintro e w3 ⟨rfl,B3⟩;have mQ:=cE (uV.out.trans (B3.mono uV.out.size));clear B3;go_wp2
  go_ret2
  exact⟨by rw[M4.out,HW.out];rfl,mQ.out⟩
 |false=>
 rw[ha] at RL;have HW:Hid (jH L [p]=(s,0)):=cE (by rw[HV.out,if_neg (by rw[ha];rintro(h|h);exact hs h;cases h)]);clear HV ha;go_wp2_with fail
 refine RL.out.mono ?_;rintro e w3 ⟨rfl,B3⟩;have ak2:w3.cell? ⟨nb,0,none⟩=some (.i s):=(B3.cell (p:=⟨nb,0,none⟩) (aA _ _ hat)).trans hat;have mQ:=cE (uV.out.trans (B3.mono uV.out.size));clear B3 hat;go_wp2
 go_ret2
 exact⟨by rw[M4.out,HW.out];rfl,mQ.out⟩
theorem JI(k0 k2 k3 k4 k5:aI)(ao po:Option aW)(c pc:Nat)(L Q:List cP)(p:cP)(w:ah)(hm:dG w)(hbig:L.length≤1000)(hL:∀r∈L,r.length≤1000)(hc:gA w w.heap.size ao L)
  (hQ0:Q≠[]) (hQn:Q.length≤1000) (Wm:∀r∈Q,r.length≤1000) (hq:pX w w.heap.size po Q):
  aQ prog 28 #[.slice ao L.length c,.agg #[k0,.s p,k2,k3,k4,k5,.slice po Q.length pc]] w (GK (oU L p Q) w):=by
 obtain⟨i0,hi,hz0,hz1,hz2⟩:=info_parts F1;obtain⟨x0,Q0,hQx⟩:∃x0 Q0,Q=x0::Q0:=by
  cases Q with
  |nil=>exact absurd rfl hQ0
  |cons x Q=>exact⟨x,Q,rfl⟩
 have hx:x0.length≤1000:=Wm x0 (by rw[hQx];simp);have M4:Hid (oU L p Q=jH L Q):=cE (by unfold oU;rw[if_neg hQ0]);have HHD:Hid (∃x1 P0,Q=x1::P0∧x1=x0):=cE ⟨x0,Q0,hQx,rfl⟩;have HPL:Hid (Q.length≤1000∧∀y∈Q,y.length≤1000):=cE ⟨hQn,Wm⟩;have agw:0<Q.length:=List.length_pos_iff.2 hQ0;clear hQx hQ0 Wm;obtain⟨N,hN⟩:=cG L.length;have HN:=cE hN;obtain⟨M,hM⟩:=cG Q.length;have HMQ:=cE hM;have HC:=cE hc;have HM:=cE hm;have HL:=cE hL;have HQ:=cE hq;rw[←hN] at hbig⊢;rw[←hM] at hQn agw⊢;clear hN hc hm hL hM hq;obtain⟨W1,zq⟩:=cG (((w.alloc (.cells #[.slice ao N c] 28)).alloc (.cells #[k0,.s p,k2,k3,k4,k5,.slice po M pc] 35)).alloc (.cells #[.s p] 9));have Oe:cF w W1:=by rw[zq];exact cR (cR (cR (aq _ w) _) _) _
 have hl:W1.cell? ⟨w.heap.size,0,none⟩=some (.slice ao N c):=by
  rw[zq];rw[((aq (w.heap.size+1) _).alloc cN _ |>.alloc cN _:Below (w.heap.size+1) (w.alloc (.cells #[.slice ao N c] 28)) _).cell (p:=⟨w.heap.size,0,none⟩) cN];exact af _ _ 0 _ 28 (0,0) (aH w _)
 have hs1:W1.heap.size=w.heap.size+3:=by rw[zq];simp
 have Ue:w.heap.size<W1.heap.size:=by omega
 go_enter func28,ntmps28
 go_wp2_with fail
 rw[←zq];clear zq;have HB0:=cE Oe;have HLB:=cE hl;clear Oe hs1 hl;go_loopw [6,20] (fun v i wr=>∃k:Nat,k≤M∧i=.i k∧Hid (wr.ownsRow W1.heap.size 9 1 v k ((Q.take k).map sv))∧Hid (cF W1 wr)) (fun _ i _=>M - (intOf i).toNat)
 case atStart=>exact⟨0,by omega,rfl,cE (bU _ _ _ _),cE (aq _ _)⟩
 obtain⟨k,hk,rfl,HR,HB⟩:=hrel;by_cases hlt:k<M
 ·obtain⟨q,hqk⟩:∃q,Q[k]?=some q:=⟨_,aK (by rw[←HMQ.out];exact hlt)⟩
  obtain⟨b,off,⟨kd,da,dn,dc,vr,sq,ep,pa,pn,Xa⟩,rfl,hb,eW⟩:=HQ.out k q hqk;have hrw:=dA eW (HB0.out.trans (HB.out.mono HB0.out.size)) hb;have h0:wr.cell? ⟨b,off+k*7,none⟩=some (.b kd):=hrw 0 _ rfl;have h1:wr.cell? ⟨b,off+k*7+1,none⟩=some (.s q):=hrw 1 _ rfl;have h2:wr.cell? ⟨b,off+k*7+2,none⟩=some (.slice da dn dc):=hrw 2 _ rfl;have h3:wr.cell? ⟨b,off+k*7+3,none⟩=some (.i vr):=hrw 3 _ rfl;have h4:wr.cell? ⟨b,off+k*7+4,none⟩=some (.bool sq):=hrw 4 _ rfl;have h5:wr.cell? ⟨b,off+k*7+5,none⟩=some (.bool ep):=hrw 5 _ rfl;have h6:wr.cell? ⟨b,off+k*7+6,none⟩=some (.slice pa pn Xa):=hrw 6 _ rfl;have HT:Hid (Q.take (k+1)=Q.take k++[q]):=cE (by rw[bY,hqk];rfl);clear eW hrw hqk;have hcn:=cell_one_new (wr.alloc (.cells #[.b kd,.s q,.slice da dn dc,.i vr,.bool sq,.bool ep,.slice pa pn Xa] 35)) (sv q) 9;rw[show(wr.alloc (.cells #[.b kd,.s q,.slice da dn dc,.i vr,.bool sq,.bool ep,.slice pa pn Xa] 35)).heap.size=wr.heap.size+1 from by simp] at hcn;have Wx:=cE hcn;clear hcn;go_wp2_with (at_builtin;refine wpList_append_own _ rfl (.tmp 24) (.tmp 27) 28 rfl W1.heap.size 9 i0 (.string ByteArray.empty) 1 16 underlying28 hi hz0 hz1 hz2 rfl cM _ _ _ rfl ((HR.out.alloc _).alloc _) ⟨wr.heap.size+1,0,none⟩ 1 1 [sv q] rfl rfl Wx.out (aaP [q]) (by unfold aM;omega) cL (by have:=HB.out.size;simp;omega) ?_;intro v3 w3 hown hgrow _)
  have HR3:Hid (w3.ownsRow W1.heap.size 9 1 v3 (k+1) ((Q.take (k+1)).map sv)):=cE (by rw[HT.out,aL];exact hown);have mQ:=cE (((HB.out.alloc HB.out.size _).alloc (by have:=HB.out.size;simp;omega) _).grown hgrow (by have:=HB.out.size;simp;omega) (fun j hj=>(HR.out.lt j hj).1));clear hown hgrow;go_roundw
  case rel=>exact⟨k+1,by omega,by go_num,HR3,mQ⟩
  case measure=>simp[intOf];omega
 obtain rfl:k=M:=by omega
 obtain⟨a,cap,rfl,GL⟩:=Xc (L:=Q) (by have:=HR.out;rw[HMQ.out,List.take_length,←HMQ.out] at this;exact this);obtain⟨g,rfl,aqm,hP⟩:∃g,a=some ⟨g,0,none⟩∧g<wr.heap.size∧wr.cell? ⟨g,0,none⟩=some (.s x0):=by
  obtain⟨x1,P0,hP0,rfl⟩:=HHD.out;exact GL 0 x1 (by rw[hP0];rfl)
 have HPS:Hid (gA wr wr.heap.size (some ⟨g,0,none⟩) Q):=cE (fun j y hy=>by
  obtain⟨g',e,h1,h2⟩:=GL j y hy;cases e;exact⟨_,0,rfl,h1,by rw[Nat.zero_add];exact h2⟩)
 have jk:=cE (HB0.out.trans (HB.out.mono HB0.out.size));have hl:wr.cell? ⟨w.heap.size,0,none⟩=some (.slice ao N c):=(HB.out.cell (p:=⟨w.heap.size,0,none⟩) Ue).trans HLB.out;have Uf:w.heap.size<wr.heap.size:=aE Ue HB.out.size;rw[show Q.length=k from HMQ.out.symm];clear GL HR;go_wp2_with fail
 have Wh:=fun(W:ah) (hW:cF w W)=>xX ao c L x0 W (HM.out.kept hW) (by rw[←HN.out];exact hbig) hx HL.out ((HC.out.kept hW).mono hW.size)
 rw[←HN.out] at Wh;have HOF:=cE Wh;have HX:=cE hx;have Du:=cE hbig;clear Wh;generalize hs0:Ao L x0=s at*;have YV:=cE hs0;clear hs0;go_cut [9] (fun t9 wc=>OS wr wc s t9)
 case first=>
  go_region_with (go_at_call 70;refine(HOF.out _ (by repeat (first|exact jk.out|refine Below.drew ?_|refine cR ?_ _))).mono ?_;rintro e w2 ⟨rfl,B2⟩;(first|(obtain⟨q0,q1⟩:=tM B2 0 _ rfl)|skip))
  all_goals
   go_wp2
   go_meet
   case rel=>first|exact Fa (mO B2)|exact E9 (mO B2) q0
 obtain⟨nb,rfl,hnb,hbc,hat⟩:=hcut;have hl2:wc.cell? ⟨w.heap.size,0,none⟩=some (.slice ao N c):=(hbc.cell (p:=⟨w.heap.size,0,none⟩) Uf).trans hl;have uV:=cE (jk.out.trans (hbc.mono jk.out.size));have hps:=HPS.out.kept hbc;have Jd:=zE (fun y=>Ao L y != s) w.heap.size nb (some ⟨g,0,none⟩) cap Q wc HPL.out.1 (hps.mono hbc.size) (fun W hW y hy=>JJ w.heap.size nb s ao c L y W (HM.out.kept (uV.out.trans (hW.mono uV.out.size))) (by rw[←HN.out];exact Du.out) (HPL.out.2 y hy) HL.out ((HC.out.kept (uV.out.trans (hW.mono uV.out.size))).mono (ay uV.out.size hW.size))
  (by rw[←HN.out];exact(hW.cell (p:=⟨w.heap.size,0,none⟩) (aE Uf hbc.size)).trans hl2) ((hW.cell (p:=⟨nb,0,none⟩) (aA _ _ hat)).trans hat))
 rw[show(Q:List cP).length=k from HMQ.out.symm] at Jd;have HV:Hid (jH L Q=if s<0∨(Q:List cP).any (fun y=>Ao L y != s)=true then (0,60) else (s,0)):=cE (by
  obtain⟨x0,P0,hP0,hx0⟩:=HHD.out;rw[hP0];simp only[jH];rw[hx0,YV.out])
 have RL:=cE Jd;clear Jd hps hbc hl2;by_cases hs:s<0
 ·have d0:decide (s<0)=true:=by simpa using hs
  have HW:Hid (jH L Q=(0,60)):=cE (by rw[HV.out,if_pos (.inl hs)]);clear HV RL;go_wp2
  go_ret2
  exact⟨by rw[M4.out,HW.out];rfl,uV.out⟩
 have d0:decide (s<0)=false:=by simpa using hs
 cases ha:(Q:List cP).any (fun y=>Ao L y != s) with
 |true=>
  rw[ha] at RL;have HW:Hid (jH L Q=(0,60)):=cE (by rw[HV.out,if_pos (.inr ha)]);clear HV ha;go_wp2_with fail
  refine RL.out.mono ?_;rintro e w3 ⟨rfl,B3⟩;have mQ:=cE (uV.out.trans (B3.mono uV.out.size));clear B3;go_wp2
  go_ret2
  exact⟨by rw[M4.out,HW.out];rfl,mQ.out⟩
 |false=>
 rw[ha] at RL;have HW:Hid (jH L Q=(s,0)):=cE (by rw[HV.out,if_neg (by rw[ha];rintro(h|h);exact hs h;cases h)]);clear HV ha;go_wp2_with fail
 refine RL.out.mono ?_;rintro e w3 ⟨rfl,B3⟩;have ak2:w3.cell? ⟨nb,0,none⟩=some (.i s):=(B3.cell (p:=⟨nb,0,none⟩) (aA _ _ hat)).trans hat;have mQ:=cE (uV.out.trans (B3.mono uV.out.size));clear B3 hat;go_wp2
 go_ret2
 exact⟨by rw[M4.out,HW.out];rfl,mQ.out⟩
end
section
open Go.RowKit Go.Shelf Go.MapKept Go.ChangeMaps Go.Sort
open Go.Maps (Keyed)
section
variable{κ ν:Type}[DecidableEq κ]{P:Program}{k:TypeId}{fk:κ→Value}{fv:ν→Value}{w:World}{b:Nat}{m:List (κ×ν)}
theorem dy{ops:Array Oper}{rest:List Oper}{o:Oper}{a:Act}{Q:Exit→Act→ah→Prop}(h:dL P k fk fv w b m)(K:Keyed P k)(hinj:∀x y,fk x=fk y→x=y){t e:aU}(ht:P.underlying t=some (.map k e))
  (hg:o.guard=none) (x y z:Operand) (hop:o.op=.insert t x y z) (hx:a.eval x=.map (some b)) (c:κ) (v:ν) (hy:a.eval y=fk c) (hz:a.eval z=fv v) {l:Lit} (ha:keyOf P k (fk c)=some l)
  (hK:∀w',dL P k fk fv w' b (iH c v m)→Kept (·=b) w w'→wpList P ops Q rest (a.put o.dst bQ) w'):wpList P ops Q (o::rest) a w:=by
 obtain⟨ob,ho⟩:=dL.update h K hinj ht v ha;obtain⟨h1,h2⟩:=ho w rfl;refine wpList_plain hg fun K' gp=>?_
 have he:(execOp a.eval o).run P w=.ok .skip (aX w b ob):=by
  unfold execOp;simp[hop,hx,hy,hz,h1,Result.andThen]
 unfold Oper.wp;rw[he,Oper.upon_skip];exact gp _ _ (hK _ h2 (jC h.lt ob))
end
def oL(n:Nat):aI:=.b n
def UM(f:Nat):aI:=.func (.func f) #[] #[]
def Qu:List (Nat×Nat):=[(1,255),(2,256),(3,257),(4,258),(5,259),(6,260)]
def Table(w:ah)(b:Nat):Prop:=dL prog 5 oL UM w b Qu
theorem eA:∀x y:Nat,oL x=oL y→x=y:=fun x y h=>by
 unfold oL at h
 injection h with _ h
 omega
theorem iW:Keyed prog 5:=Maps.int_keyed underlying5
theorem YA(w:ah):aQ prog 185 #[] w fun e w'=>∃b,e=.returned (.map (some b))∧Table w' b∧w.heap.size≤b∧cF w w':=by
 have hmm:=@run_makeMap prog;have VI:dL prog 5 oL UM (w.alloc (.map #[] 0)) w.heap.size ([]:List (Nat×Nat)):=dL.made _ _ _ _ w;go_enter func185,ntmps185
 go_wp2_with (first
  |(refine dy VI iW eA underlying247 rfl (.tmp 1) (.const (.b 1)) (.func 255) rfl rfl 1 255 rfl rfl (l:=.b 1) cO ?_;intro v1 RF Wv;clear VI)
  |(refine dy RF iW eA underlying247 rfl (.tmp 1) (.const (.b 2)) (.func 256) rfl rfl 2 256 rfl rfl (l:=.b 2) cO ?_;intro v2 MZ Wu;clear RF)
  |(refine dy MZ iW eA underlying247 rfl (.tmp 1) (.const (.b 3)) (.func 257) rfl rfl 3 257 rfl rfl (l:=.b 3) cO ?_;intro v3 MY uU;clear MZ)
  |(refine dy MY iW eA underlying247 rfl (.tmp 1) (.const (.b 4)) (.func 258) rfl rfl 4 258 rfl rfl (l:=.b 4) cO ?_;intro v4 HM4 HK4;clear MY)
  |(refine dy HM4 iW eA underlying247 rfl (.tmp 1) (.const (.b 5)) (.func 259) rfl rfl 5 259 rfl rfl (l:=.b 5) cO ?_;intro v5 RE HK5;clear HM4)
  |(refine dy RE iW eA underlying247 rfl (.tmp 1) (.const (.b 6)) (.func 260) rfl rfl 6 260 rfl rfl (l:=.b 6) cO ?_;intro v6 YY HK6;clear RE)
  |fail)
 go_ret
 refine⟨_,rfl,YY,an _,?_⟩;have hk:Kept (·=w.heap.size) (w.alloc (.map #[] 0)) v6:=Wv.trans (Wu.trans (uU.trans (HK4.trans (HK5.trans HK6))));exact(cR (aq _ w) _).trans (hk.below cN (fun k e=>by have e:k=w.heap.size:=e;omega))
end
section
open Go.RowKit Go.ChangeShapes Go.WideShapes Go.Deep
theorem cellsByte:prog.cellsOf 5=1:=by kernel_rfl
theorem qF:prog.cellsOf 32=1:=by kernel_rfl
theorem wY:prog.cellsOf 29=1:=by kernel_rfl
theorem wX:prog.cellsOf 36=1:=by kernel_rfl
theorem Cq:prog.cellsOf 3=1:=by kernel_rfl
theorem JB:prog.cellsOf 4=1:=by kernel_rfl
theorem yE:prog.cellsOf 31=2:=by kernel_rfl
theorem zG:prog.cellsOf 93=11:=by kernel_rfl
theorem Rr:prog.cellsOf 38=1:=by kernel_rfl
def mR:Nat→Prop:=fun _=>True
section
variable{H:Type}{enc:TypeId×Value→H}{w:World}{base:Nat}{spare:Nat→Bool}{held:Bool}
theorem G5{fuel:Nat}{t e:aU}(ht:prog.underlying t=some (.slice e)){len cap:Nat}{x:DataW H×List bS}(h:au enc prog w base spare held fuel t [.slice none len cap]=some x):len=0∧cap=0:=by
 rcases DataW.trod_slice ht h with ⟨h1,_⟩|⟨a,len',cap',_,_,_,_,h1,_⟩
 ·simp at h1;exact h1
 simp at h1
def U32(x:Int):Prop:=0≤x∧x<4294967296
def U64(x:Int):Prop:=0≤x∧x<18446744073709551616
def I64(x:Int):Prop:=-9223372036854775808≤x∧x<9223372036854775808
theorem uk{n:Int}(h:(Lit.int .u32 n).wf=true):U32 n:=by
 simp[Lit.wf,bJ,bK,bB,bG] at h;exact⟨by omega,by omega⟩
theorem uj{n:Int}(h:(Lit.int .u64 n).wf=true):U64 n:=by
 simp[Lit.wf,bJ,bK,bB,bG] at h;exact⟨by omega,by omega⟩
theorem yl{n:Int}(h:(Lit.int .i64 n).wf=true):I64 n:=by
 simp[Lit.wf,bJ,bK,bB,bG] at h;exact⟨by omega,by omega⟩
structure eL.Wf(u:eL):Prop where
 gS:U32 u.gS
 C5:U32 u.C5
 next:U32 u.next
 os:I64 u.os
 on:U32 u.on
 made:U64 u.made
 EY:U64 u.EY
 DG:U64 u.DG
theorem Cr{fuel:Nat}{cs:List aI}{y:DataW H×List bS}(h:au enc prog w base spare held fuel 32 cs=some y):
  ∃ao c D,cs=[.slice ao D.length c]∧D.length≤c∧c≤aM∧eB w mR w.heap.size ao D∧(ao=none→D=[]∧c=0):=by
 have h0:=h;obtain⟨ao,len,cap,rfl,hl,hm,hi⟩:=Pn (P:=prog) underlying32 cellsByte cL h;obtain⟨D,rfl,hat⟩:=mJ (fun i (x:UInt8)=>∃b off,ao=some ⟨b,off,none⟩∧b<w.heap.size∧w.cell? ⟨b,off+i,none⟩=some (.b x.toNat)) len (fun i hil=>by
  obtain⟨b,off,cs',n',y',h1,h2,h3,h4,h5⟩:=hi i hil;obtain⟨v,e0,_,wf⟩:=aC underlying5 h5;subst e0;obtain⟨w0,w1⟩:=wf_u8 wf;have:=h4 0 _ rfl;rw[Nat.mul_one,Nat.add_zero] at this;refine⟨UInt8.ofNat v.toNat,b,off,h1,h2,?_⟩;rw[this];have:((UInt8.ofNat v.toNat).toNat:Int)=v:=by
   rw[UInt8.toNat_ofNat'];omega
  rw[this])
 refine⟨ao,cap,D,rfl,hl,hm,fun j c hj=>?_,fun e=>?_⟩
 ·obtain⟨b,off,h1,h2,h3⟩:=hat j c hj
  exact⟨b,off,h1,trivial,h2,h3⟩
 subst e;obtain⟨h1,h2⟩:=G5 underlying32 h0;exact⟨bA h1,h2⟩
theorem DL{fuel:Nat}{cs:List aI}{y:DataW H×List bS}(h:au enc prog w base spare held fuel 31 cs=some y):
  ∃a c:Int,cs=[.i a,.u c]∧I64 a∧U32 c:=by
 obtain⟨xs,n,_,_,hl,hx,hf⟩:=aZ underlying31 h;rw[yE] at hl
 match cs,hl with
 |[c0,c1],_=>
  match xs,hx with
  |[y0,y1],_=>
   have g0:au enc prog w base spare held n 3 (([c0,c1].drop 0).take (prog.cellsOf 3))=some y0:=hf 0 _ rfl;have g1:au enc prog w base spare held n 29 (([c0,c1].drop 1).take (prog.cellsOf 29))=some y1:=hf 1 _ rfl;rw[Cq] at g0;rw[wY] at g1;obtain⟨a,e0,_,wa⟩:=aC underlying3 g0;obtain⟨c,e1,_,wc⟩:=aC underlying29 g1;simp at e0 e1;subst e0 e1;exact⟨_,_,rfl,yl wa,uk wc⟩
theorem PN{fuel:Nat}{cs:List aI}{y:DataW H×List bS}(h:au enc prog w base spare held fuel 44 cs=some y):
  ∃(r:Raw) (d:Nd),cs=r.cells∧Reads w mR r d∧d.data.length≤aM∧d.num.Wf:=by
 obtain⟨xs,n,_,_,hl,hx,hf⟩:=aZ underlying44 h;rw[MG] at hl
 match cs,hl with
 |[c0,c1,c2,c3,c4,c5,c6,c7,c8],_=>
  match xs,hx with
  |[y0,y1,y2,y3,y4,y5,y6,y7],_=>
   have g0:au enc prog w base spare held n 32 (([c0,c1,c2,c3,c4,c5,c6,c7,c8].drop 0).take (prog.cellsOf 32))=some y0:=hf 0 _ rfl;have g1:au enc prog w base spare held n 29 (([c0,c1,c2,c3,c4,c5,c6,c7,c8].drop 1).take (prog.cellsOf 29))=some y1:=hf 1 _ rfl;have g2:au enc prog w base spare held n 29 (([c0,c1,c2,c3,c4,c5,c6,c7,c8].drop 2).take (prog.cellsOf 29))=some y2:=hf 2 _ rfl;have g3:au enc prog w base spare held n 29 (([c0,c1,c2,c3,c4,c5,c6,c7,c8].drop 3).take (prog.cellsOf 29))=some y3:=hf 3 _ rfl;have g4:au enc prog w base spare held n 31 (([c0,c1,c2,c3,c4,c5,c6,c7,c8].drop 4).take (prog.cellsOf 31))=some y4:=hf 4 _ rfl;have g5:au enc prog w base spare held n 36 (([c0,c1,c2,c3,c4,c5,c6,c7,c8].drop 6).take (prog.cellsOf 36))=some y5:=hf 5 _ rfl;have g6:au enc prog w base spare held n 36 (([c0,c1,c2,c3,c4,c5,c6,c7,c8].drop 7).take (prog.cellsOf 36))=some y6:=hf 6 _ rfl;have g7:au enc prog w base spare held n 36 (([c0,c1,c2,c3,c4,c5,c6,c7,c8].drop 8).take (prog.cellsOf 36))=some y7:=hf 7 _ rfl;rw[qF] at g0;rw[wY] at g1 g2 g3;rw[yE] at g4;rw[wX] at g5 g6 g7;obtain⟨ao,c,D,e0,b1,b2,b3,b4⟩:=Cr g0;obtain⟨n1,e1,_,w1⟩:=aC underlying29 g1;obtain⟨n2,e2,_,w2⟩:=aC underlying29 g2;obtain⟨n3,e3,_,w3⟩:=aC underlying29 g3;obtain⟨n4,n5,e4,w4,w5⟩:=DL g4;obtain⟨n6,e6,_,w6⟩:=aC underlying36 g5;obtain⟨n7,e7,_,w7⟩:=aC underlying36 g6;obtain⟨n8,e8,_,w8⟩:=aC underlying36 g7;simp at e0 e1 e2 e3 e4 e6 e7 e8;obtain⟨rfl,rfl⟩:=e4;subst e0 e1 e2 e3 e6 e7 e8;exact⟨⟨ao,D.length,c,⟨n1,n2,n3,n4,n5,n6,n7,n8⟩⟩,⟨D,⟨n1,n2,n3,n4,n5,n6,n7,n8⟩⟩,rfl,⟨rfl,rfl,b3,b4⟩,ay b1 b2,⟨uk w1,uk w2,uk w3,w4,w5,uj w6,uj w7,uj w8⟩⟩
theorem Jo{fuel:Nat}{cs:List aI}{y:DataW H×List bS}(h:au enc prog w base spare held fuel 93 cs=some y):
  ∃(r:cZ) (e:gh),cs=r.cells∧kP w mR r e∧e.path.length≤aM∧e.node.data.length≤aM∧e.node.num.Wf:=by
 obtain⟨xs,n,_,_,hl,hx,hf⟩:=aZ underlying93 h;rw[zG] at hl
 match cs,hl with
 |c0::c1::rest,hl=>
  match xs,hx with
  |[y0,y1,y2],_=>
   have g0:au enc prog w base spare held n 9 (((c0::c1::rest).drop 0).take (prog.cellsOf 9))=some y0:=hf 0 _ rfl;have g1:au enc prog w base spare held n 4 (((c0::c1::rest).drop 1).take (prog.cellsOf 4))=some y1:=hf 1 _ rfl;have g2:au enc prog w base spare held n 44 (((c0::c1::rest).drop 2).take (prog.cellsOf 44))=some y2:=hf 2 _ rfl;rw[wZ] at g0;rw[JB] at g1;rw[MG] at g2;obtain⟨s,e0,_,hs⟩:=DataW.trod_string underlying9 g0;obtain⟨p,rfl⟩:=AG s;obtain⟨k,e1,_⟩:=DataW.trod_bool underlying4 g1;obtain⟨r,d,e2,h1,h2,h3⟩:=PN g2;have hl9:rest.length=9:=by simpa using hl
   simp only[List.drop_succ_cons,List.drop_zero] at e2;rw[bM cL] at e2;simp at e0 e1;subst e0 e1 e2;rw[eP] at hs;exact⟨⟨p,k,r⟩,⟨p,k,d⟩,rfl,⟨rfl,rfl,h1⟩,hs,h2,h3⟩
structure InE(e:gh):Prop where
 path:e.path.length≤aM
 data:e.node.data.length≤aM
 num:e.node.num.Wf
theorem TD{α β:Type}(R:Nat→α→β→Prop)(n:Nat)(h:∀i,i<n→∃a b,R i a b):∃(A:List α) (B:List β),A.length=n∧B.length=n∧∀(i:Nat) a b,A[i]?=some a→B[i]?=some b→R i a b:=by
 obtain⟨L,hl,hat⟩:=mJ (fun i (x:α×β)=>R i x.1 x.2) n (fun i hi=>by obtain⟨a,b,h⟩:=h i hi;exact⟨(a,b),h⟩);refine⟨L.map (·.1),L.map (·.2),by simp[hl],by simp[hl],fun i a b ha hb=>?_⟩;simp only[List.getElem?_map,Option.map_eq_some_iff] at ha hb;obtain⟨x,hx,rfl⟩:=ha;obtain⟨y,hy,rfl⟩:=hb;rw[hx] at hy;cases hy;exact hat i x hx
end
end
section
open Go.RowKit
section
variable{w:World}(hm:dG w)(ao:Option Addr)(c:Nat)(L:List cP)(hbig:L.length≤1000)(hL:∀r∈L,r.length≤1000)(hc:gA w w.heap.size ao L)
include hm hbig hL hc
theorem JG(k0 k2 k3 k4 k5:aI)(po:Option aW)(pc:Nat)(p:cP)(Q:List cP)(hp:p.length≤1000)(hQn:Q.length≤1000)(Wm:∀r∈Q,r.length≤1000)(hq:pX w w.heap.size po Q):si w 28 #[.slice ao L.length c,.agg #[k0,.s p,k2,k3,k4,k5,.slice po Q.length pc]] (.tuple #[.i (oU L p Q).1,.i (oU L p Q).2]):=
 fun W hW=>by
  by_cases h0:Q=[]
  ·subst h0
   exact Ov k0 k2 k3 k4 k5 ao po c pc L p W (hm.kept hW) hbig hp hL ((hc.kept hW).mono hW.size)
  ·exact JI k0 k2 k3 k4 k5 ao po c pc L Q p W (hm.kept hW) hbig hL ((hc.kept hW).mono hW.size) h0 hQn Wm ((hq.kept hW).mono hW.size)
end
end
section
open Go.RowKit Go.Shelf Go.MapKept Go.ChangeMaps Go.Sort
open Go.Maps (Keyed)
def aaX:List (Nat×Nat):=[(2,169),(3,170),(1,171),(4,172),(5,173),(6,174),(7,175)]
def MS(w:ah)(b:Nat):Prop:=dL prog 5 oL UM w b aaX
theorem Pe(w:ah):aQ prog 67 #[] w fun e w'=>∃b,e=.returned (.map (some b))∧MS w' b∧w.heap.size≤b∧cF w w':=by
 have hmm:=@run_makeMap prog;have VI:dL prog 5 oL UM (w.alloc (.map #[] 0)) w.heap.size ([]:List (Nat×Nat)):=dL.made _ _ _ _ w;go_enter func67,ntmps67
 go_wp2_with (first
  |(refine dy VI iW eA underlying148 rfl (.tmp 1) (.const (.b 2)) (.func 169) rfl rfl 2 169 rfl rfl (l:=.b 2) cO ?_;intro v1 RF Wv;clear VI)
  |(refine dy RF iW eA underlying148 rfl (.tmp 1) (.const (.b 3)) (.func 170) rfl rfl 3 170 rfl rfl (l:=.b 3) cO ?_;intro v2 MZ Wu;clear RF)
  |(refine dy MZ iW eA underlying148 rfl (.tmp 1) (.const (.b 1)) (.func 171) rfl rfl 1 171 rfl rfl (l:=.b 1) cO ?_;intro v3 MY uU;clear MZ)
  |(refine dy MY iW eA underlying148 rfl (.tmp 1) (.const (.b 4)) (.func 172) rfl rfl 4 172 rfl rfl (l:=.b 4) cO ?_;intro v4 HM4 HK4;clear MY)
  |(refine dy HM4 iW eA underlying148 rfl (.tmp 1) (.const (.b 5)) (.func 173) rfl rfl 5 173 rfl rfl (l:=.b 5) cO ?_;intro v5 RE HK5;clear HM4)
  |(refine dy RE iW eA underlying148 rfl (.tmp 1) (.const (.b 6)) (.func 174) rfl rfl 6 174 rfl rfl (l:=.b 6) cO ?_;intro v6 YY HK6;clear RE)
  |(refine dy YY iW eA underlying148 rfl (.tmp 1) (.const (.b 7)) (.func 175) rfl rfl 7 175 rfl rfl (l:=.b 7) cO ?_;intro v7 HM7 Y0;clear YY)
  |fail)
 go_ret
 refine⟨_,rfl,HM7,an _,?_⟩;have hk:Kept (·=w.heap.size) (w.alloc (.map #[] 0)) v7:=Wv.trans (Wu.trans (uU.trans (HK4.trans (HK5.trans (HK6.trans Y0)))));exact(cR (aq _ w) _).trans (hk.below cN (fun k e=>by have e:k=w.heap.size:=e;omega))
end
