/- Part 22. -/
import Derived.Test.YtdpaejbaoefdjaaGreatDoorG21
import Derived.Lib.OwnBridge
open Go.AllReadyIn renaming cons → aa,nil → ag
open Go renaming cell_of_row → af,World → ah,wpAnyIn_ready → aj,lt_of_block → aB,heap_alloc_new → aH,Value → aI,maxLen → aM,callsIn_wide → aP,Calls → aQ,TypeId → aU,Addr → aW,Boxed → bg,wpAnyIn_done → bC,undef → bQ,MemPlace → bS,ownsRow_succ → bX
open Nat renaming le_refl → an,le_trans → ay,lt_of_lt_of_le → aE
open Go.RowKit.Below renaming refl → aq
open Go.DataW renaming trod → au,trod_int → aC,trod_struct → aZ
open Go.World renaming block_lt_of_cell? → aA,size_alloc → aJ,putObj_heap_other → bH,ownsRow_nil → bU
open Array renaming getElem?_eq_some_iff → aD,getElem?_modify → bP
open List renaming length_map → aF,getElem?_eq_getElem → aK,map_append → aL,length_append → aN,pairwise_iff_getElem → aO,mem_cons_of_mem → aR,cons_append → bu,eq_nil_of_length_eq_zero → bA,getElem?_eq_some_iff → bF,take_of_length_le → bM,map_map → bN,length_filter_le → bT,mem_cons_self → bW,take_add_one → bY
open Go.Sort renaming ahead → aG,putRow → aT,mapBlock → aY
open Bool renaming not_false → aS,not_true → aV
open Go.ChangeMaps renaming setBlock → aX
open Go.CallsIn renaming inRound → bh
open Go.Boxed renaming new → bq
open Go.Proofs renaming encStr → bz
open Go.IntKind renaming signed → bB,bits → bG,min → bJ,max → bK
open Go.Lib renaming compact → bL
namespace Go.Proofs.YtdpaejbaoefdjaaGreatDoor
open Go.Proofs.Tryz
set_option maxRecDepth 100000
set_option maxHeartbeats 64000000
set_option linter.unusedVariables false
set_option linter.unusedSimpArgs false
section
open Go.RowKit Go.Shelf Go.MapKept Go.ChangeMaps Go.Maps Go.Sort
attribute [local go_sem] Oper.semAt_some
def lY(cP:cO)(M:List (cO×Nd))(p:cO):List cO:=qy (((iu M).filter (vH cP p)).map jI)
theorem Hs(cP:cO)(M:List (cO×Nd))(p:cO):(((iu M).filter (vH cP p)).map jI).length≤M.length:=by
 rw[aF];have:=bT (vH cP p) (iu M);rw[pF] at this;exact this
theorem KO(w:ah)(a1 a2 a3 a4 a5:aI)(t1 t2 t3 t4 t5:aU)(W:ah)
  (h:W=((((w.alloc (.cells #[a1] t1)).alloc (.cells #[a2] t2)).alloc (.cells #[a3] t3)).alloc (.cells #[a4] t4)).alloc (.cells #[a5] t5)):
  cE w W∧W.heap.size=w.heap.size+5∧bg W w.heap.size t1 a1∧bg W (w.heap.size+1) t2 a2∧bg W (w.heap.size+1+1) t3 a3∧bg W (w.heap.size+1+1+1) t4 a4∧bg W (w.heap.size+1+1+1+1) t5 a5:=by
 subst h;have b1:=bq w t1 a1;have b2:=bq (w.alloc (.cells #[a1] t1)) t2 a2;have b3:=bq ((w.alloc (.cells #[a1] t1)).alloc (.cells #[a2] t2)) t3 a3;have b4:=bq (((w.alloc (.cells #[a1] t1)).alloc (.cells #[a2] t2)).alloc (.cells #[a3] t3)) t4 a4;have b5:=bq ((((w.alloc (.cells #[a1] t1)).alloc (.cells #[a2] t2)).alloc (.cells #[a3] t3)).alloc (.cells #[a4] t4)) t5 a5;simp only[aJ] at b2 b3 b4 b5;refine⟨?_,by simp,(((b1.alloc _).alloc _).alloc _).alloc _,((b2.alloc _).alloc _).alloc _,(b3.alloc _).alloc _,b4.alloc _,b5⟩;exact cT (cT (cT (cT (cT (aq _ w) _) _) _) _) _
theorem jf{W W':ah}(h:cE W W'):KeepsOthers W W':=⟨h.size,fun k o hk _=>(h.block k (aD.1 hk).1).trans hk⟩
def wE(w:ah)(base:Nat)(v:aI)(L:List cO):Prop:=
 (v=.n∧L=[])∨∃g cap,v=.slice (some ⟨g,0,none⟩) L.length cap∧base≤g∧g<w.heap.size∧L.length≤cap∧∀i p,L[i]?=some p→w.cell? ⟨g,i,none⟩=some (.s p)
theorem rR.c{w:ah}{base:Nat}{v:aI}{L:List cO}(h:rR w base v L):wE w base v L:=by
 rcases h.at with h|⟨g,cap,h1,h2,h3,h4,_,h5⟩
 ·exact .inl h
 exact .inr ⟨g,cap,h1,h2,h3,h4,h5⟩
theorem wE.kept{w w':ah}{base:Nat}{v:aI}{L:List cO}(h:wE w base v L)(hs:w.heap.size≤w'.heap.size)(hk:∀g,v.ownBlock=some g→w'.heap[g]?=w.heap[g]?):wE w' base v L:=by
 rcases h with h|⟨g,cap,rfl,h2,h3,h4,h5⟩
 ·exact .inl h
 exact .inr ⟨g,cap,rfl,h2,by omega,h4,fun i p hp=>(World.cell?_of_block (w:=w) (a:=⟨g,i,none⟩) (hk g rfl)).trans (h5 i p hp)⟩
theorem wE.mono{w:ah}{base base':Nat}{v:aI}{L:List cO}(h:wE w base v L)(hb:base'≤base):wE w base' v L:=by
 rcases h with h|⟨g,cap,h1,h2,h3,h4,h5⟩
 ·exact .inl h
 exact .inr ⟨g,cap,h1,by omega,h3,h4,h5⟩
theorem wE.form{w:ah}{base:Nat}{v:aI}{L:List cO}(h:wE w base v L):∃a c,v=.slice a L.length c∧L.length≤c:=by
 rcases h with ⟨rfl,rfl⟩|⟨g,cap,rfl,_,_,h4,_⟩
 ·exact⟨_,_,rfl,an _⟩
 exact⟨_,_,rfl,h4⟩
theorem NN(w:ah)(base:Nat)(v:aI)(L:List cO)(h:rR w base v L)(hbig:L.length≤1000):
  aQ prog 56 #[v] w fun e w'=>e=.returned (.tuple #[])∧wE w' base v (qy L)∧w.heap.size≤w'.heap.size∧w'.os=w.os∧w'.tape=w.tape∧w'.output=w.output∧(∀k,k<w.heap.size→v.ownBlock≠some k→w'.heap[k]?=w.heap[k]?):=by
 by_cases h0:v=.n
 ·have hL:L=[]:=by
   rcases h.at with ⟨_,h2⟩|⟨g,cap,h1,_⟩
   ·exact h2
   rw[h0] at h1;cases h1
  subst h0 hL;refine(slices_Sort_string_none none 0 w).mono ?_;rintro e w' ⟨rfl,rfl⟩;exact⟨rfl,.inl ⟨rfl,by simp[qy]⟩,an _,rfl,rfl,rfl,fun _ _ _=>rfl⟩
 obtain⟨g,cap,rfl,yG,hg,hnc,hcm,hzl,hH⟩:=Lib.holds_of_ownsRow (enc:=bz) h h0;refine(slices_Sort_string g 0 cap L w hH hg cK).mono ?_;rintro e w' ⟨rfl,n,os,rfl⟩;have hsz:g<(aT bz (aG w n) g 0 (L.mergeSort fun x y=>decide (x≤y)).toArray).heap.size:=by simpa [aT,aY,aG] using hg
 have hls:(qy L).length=L.length:=(iS L).length_eq;have hH2:=holds_grow _ _ os g 0 _ hsz (holds_putRow _ _ g 0 _ _ (holds_ahead _ w n g 0 _ hH) cM);refine⟨rfl,.inr ⟨g,cap,by rw[hls],yG,?_,by omega,fun i p hp=>?_⟩,?_,rfl,rfl,rfl,fun k hk hne=>?_⟩
 ·simp[grow,aT,aY,aG];omega
 ·have hi:i<(L.mergeSort fun x y=>decide (x≤y)).toArray.size:=by simpa [qy] using (bF.1 hp).1
  have:=(hH2 i hi).1;rw[Nat.zero_add] at this;rw[this,getElem!_pos _ i hi];have he:=(bF.1 hp).2;simp only[List.getElem_toArray];unfold qy at he;rw[he];rfl
 ·simp[grow,aT,aY,aG]
 have h1:(grow (aT bz (aG w n) g 0 (L.mergeSort fun x y=>decide (x≤y)).toArray) os).heap[k]?=(aT bz (aG w n) g 0 (L.mergeSort fun x y=>decide (x≤y)).toArray).heap[k]?:=heap_grow_old _ os (by simpa [aT,aY,aG] using hk);rw[h1];have hgk:g≠k:=fun e=>hne (by rw[e];rfl)
 simp[aT,aY,aG,bP,hgk]
theorem V7(w:ah)(tp:Option aW)(p:cO)(ys:List Key)(hlen:ys.length≤1000)(E9:dM w)
  (hseq:∀W1,cE w W1→W1.heap.size=w.heap.size+5→bg W1 w.heap.size 57 (.pointer tp)→bg W1 (w.heap.size+1) 9 (.s p)→bg W1 (w.heap.size+1+1) 28 (.n)→
   bg W1 (w.heap.size+1+1+1) 57 (.pointer tp)→bg W1 (w.heap.size+1+1+1+1) 124 (.func (.func 53) #[] #[.p (w.heap.size+1),.p w.heap.size])→
   SeqStopsK Fence.wide 1 prog 115 #[.p (w.heap.size+1+1+1),.p (w.heap.size+1+1+1+1)] (fun x:Key=>#[sv x.1]) (jo W1.heap.size (w.heap.size+1+1)) (fun zs=>zs=ys) (fun pre=>pre <+: ys) 1000 W1):
  aQ prog 20 #[.pointer tp,.s p] w fun e W'=>∃v,e=.returned v∧wE W' w.heap.size v (qy (ys.map fun q=>jI q.1))∧cE w W':=by
 obtain⟨i0,hi,hz0,hz1,hz2⟩:=info_parts E0;have HMX:=cD E9;clear E9;refine(aP (n:=2)).1 ?_;refine callsIn_of_wp_marks func20 rfl trivial ?_ rfl;simp only[ntmps20,List.size_toArray,List.length_cons,List.length_nil,Nat.reduceAdd,Nat.reduceSub,Array.replicate_succ,Array.replicate_zero,List.push_toArray,List.append_toArray,List.nil_append,bu];gi_wp2_with fail
 refine⟨trivial,?_⟩;refine(aP.2 (Nc _ _ _ rfl rfl)).mono ?_;rintro e w' ⟨rfl,rfl⟩;gi_wp2
 obtain⟨W1,Cz⟩:∃W1,W1=((((w.alloc (.cells #[.pointer tp] 57)).alloc (.cells #[.s p] 9)).alloc (.cells #[.n] 28)).alloc (.cells #[.pointer tp] 57)).alloc
  (.cells #[.func (.func 53) #[] #[.p (w.heap.size+1),.p w.heap.size]] 124):=⟨_,rfl⟩
 obtain⟨MZ,hs1,bt,bp,bo,bt2,bw⟩:=KO w _ _ _ _ _ _ _ _ _ _ W1 Cz;rw[←Cz];clear Cz;have HS:=cD hs1;have jT:=cD MZ;have HBT:=cD bt;have HBP:=cD bp;have HBO:=cD bo;have akI:=cD bt2;have HBW:=cD bw;clear hs1 MZ bt bp bo bt2 bw;have SB:w.heap.size+4<W1.heap.size:=by rw[HS.out];omega
 refine wpIn_rangeFunc_ownG (α:=Key) rfl cK (gf:=115) (lb:=#[.p (w.heap.size+1+1+1),.p (w.heap.size+1+1+1+1)]) rfl trivial (enters_of func115 cJ rfl)
  (encs:=fun x:Key=>#[sv x.1]) (Kp:=jo W1.heap.size (w.heap.size+1+1)) (S:=fun zs=>zs=ys) (Sp:=fun pre=>pre <+: ys) (N:=1000) (w0:=W1)
  ?seq fT (MH (an _) cK) (aq _ _) (fun _=>rfl)
  (fun pre W=>(∃v,bg W (w.heap.size+1+1) 28 v∧W.ownsRow W1.heap.size 9 1 v pre.length (pre.map fun q=>sv (jI q.1))∧True)∧jo W1.heap.size (w.heap.size+1+1) W1 W)
  (fun _ _ _=>False)
  (OwnFrom.and (Own.from (holdsRow_own W1.heap.size (w.heap.size+1+1) 28 9 1 (fun pre:List Key=>pre.length) (fun pre=>pre.map fun q=>sv (jI q.1)) (fun _ _=>True)) _) (sZ (an _) cK (an _)))
  (fun _ _ _ _ _ hs _ _=>hs)
  ⟨⟨_,HBO.out,bU _ _ _ _,trivial⟩,qf _ _ _⟩
  (fun x=>{tmps:=#[.pointer tp,.s p,.p w.heap.size,.p (w.heap.size+1),.n,.p (w.heap.size+1+1),sv x.1,.pointer tp,.func (.func 53) #[] #[.p (w.heap.size+1),.p w.heap.size],
   .func (.func 115) #[] #[.p (w.heap.size+1+1+1),.p (w.heap.size+1+1+1+1)],sv x.1,bQ,bQ,bQ,bQ,bQ,bQ,bQ,bQ],defers:=[]}) ?assign ?body ?done ?stop
 case seq=>
  exact hseq W1 jT.out HS.out HBT.out HBP.out HBO.out akI.out HBW.out
 case assign=>
  intro l x W K hK;unfold sv at*;gi_wp2
  exact hK
 case body=>
  rintro l pre ⟨x,hxl⟩ W ⟨⟨v,hv,hrow,_⟩,hB⟩ hlt;have hsz:=hB.size;have Wz:cE w W.drew:=(jT.out.trans (kO hB cK cK)).drew;have Um:=cD (IS HMX.out x hxl W.drew Wz);have HHB:=cD hB;have hc:=hv.cell;have hO:=hv.lt;have hc0:W.drew.cell? ⟨w.heap.size+1+1,0,none⟩=some v:=hc;unfold sv;have XM:bg W.drew (w.heap.size+1+1) 28 v:=hv;have Su:W.drew.ownsRow W1.heap.size 9 1 v pre.length (pre.map fun q=>sv (jI q.1)):=hrow;have hOd:w.heap.size+1+1<W.drew.heap.size:=hO;have Z0:W1.heap.size≤W.drew.heap.size:=hsz;clear Wz hB;gi_wp2_with fail
  refine wpIn_region_any cJ ?_
  try (change wpAnyIn _ _ _ _ _ _ _ _ _ (World.drew _))
  refine aj (rs:=[0,1]) cJ cM ?_;refine aa rfl (fun K hK=>?_) (aa rfl (fun K hK=>?_) ag)
  ·go_simp
   refine hK _ _ ?_;clear hK K;refine aj (rs:=[1]) cJ cM ?_;refine aa rfl (fun K hK=>?_) ag;go_simp
   refine hK _ _ ?_;clear hK K;refine aj (rs:=[2]) cJ cM ?_;refine aa rfl (fun K hK=>?_) ag;go_simp
   refine⟨trivial,rfl,?_⟩;refine(bh l (aP.2 Um.out)).mono ?_;rintro e w5 ⟨rfl,B5⟩;have MK:=gj XM B5 hOd;have l5:=vi (base':=W1.heap.size) Su (an _) (fun g cs fr _ _ hg=>B5.block g (aD.1 hg).1);obtain⟨v',w6,q,hown',hgrow,zu⟩:=gC (P:=prog) (w:=w5.alloc (.cells #[.string (bs (jI x))] 9)) W1.heap.size 28 28 9 i0 (.z) 1 16 underlying28 hi hz0 hz1 hz2 rfl cL v _ _ (l5.alloc _) ⟨w5.heap.size,0,none⟩ 1 1 [.string (bs (jI x))] rfl (qs w5 _ _) (by intro u hu;simp at hu;subst hu;rfl) (by unfold aM;omega) cK (by have:=B5.size;rw[aJ];omega);obtain⟨g',cap',rfl⟩:=bX hown';have hc5:=MK.cell;have hl5:=MK.lt;obtain⟨sN,qg,hr2,hk2,dI⟩:=pQ (n:=W1.heap.size) MK cL l5 (ay Z0 B5.size) (an _) hown' hgrow zu;have hc1:=sN.cell;have AY:=sN.frozen;refine hK _ _ ?_;clear hK K;refine aj (rs:=[3]) cJ cM ?_;refine aa rfl (fun K hK=>?_) ag;go_simp
   refine hK _ _ ?_;clear hK K;refine aj (rs:=[4]) cJ cM ?_;refine aa rfl (fun K hK=>?_) ag;refine je rfl (.tmp 11) (.tmp 14) 28 rfl v _ _ w6 rfl rfl q ?_;refine hK _ _ ?_;clear hK K;refine aj (rs:=[5]) cJ cM ?_;refine aa rfl (fun K hK=>?_) ag;go_simp
   refine hK _ _ ?_;clear hK K;refine bC cJ ?_ _;exact⟨((jf (W:=W) (W':=w5) ⟨B5.os,B5.tape,B5.output,B5.size,B5.block⟩).trans hk2).from _,fT (fO ⟨B5.os,B5.tape,B5.output,B5.size,B5.block⟩ hsz hO) dI,⟨_,qg,by rw[aN,aL];exact hr2,trivial⟩,fT HHB.out (fT (fO ⟨B5.os,B5.tape,B5.output,B5.size,B5.block⟩ hsz hO) dI)⟩
  go_simp
  refine hK _ _ ?_;clear hK K;refine aj (rs:=[0,2]) cJ cM ?_;refine aa rfl (fun K hK=>?_) (aa rfl (fun K hK=>?_) ag)
  ·go_simp
   refine hK _ _ ?_;clear hK K;refine aj (rs:=[2]) cJ cM ?_;refine aa rfl (fun K hK=>?_) ag;go_simp
   refine⟨trivial,rfl,?_⟩;refine(bh l (aP.2 Um.out)).mono ?_;rintro e w5 ⟨rfl,B5⟩;have MK:=gj XM B5 hOd;have l5:=vi (base':=W1.heap.size) Su (an _) (fun g cs fr _ _ hg=>B5.block g (aD.1 hg).1);obtain⟨v',w6,q,hown',hgrow,zu⟩:=gC (P:=prog) (w:=w5.alloc (.cells #[.string (bs (jI x))] 9)) W1.heap.size 28 28 9 i0 (.z) 1 16 underlying28 hi hz0 hz1 hz2 rfl cL v _ _ (l5.alloc _) ⟨w5.heap.size,0,none⟩ 1 1 [.string (bs (jI x))] rfl (qs w5 _ _) (by intro u hu;simp at hu;subst hu;rfl) (by unfold aM;omega) cK (by have:=B5.size;rw[aJ];omega);obtain⟨g',cap',rfl⟩:=bX hown';have hc5:=MK.cell;have hl5:=MK.lt;obtain⟨sN,qg,hr2,hk2,dI⟩:=pQ (n:=W1.heap.size) MK cL l5 (ay Z0 B5.size) (an _) hown' hgrow zu;have hc1:=sN.cell;have AY:=sN.frozen;refine hK _ _ ?_;clear hK K;refine aj (rs:=[3]) cJ cM ?_;refine aa rfl (fun K hK=>?_) ag;go_simp
   refine hK _ _ ?_;clear hK K;refine aj (rs:=[4]) cJ cM ?_;refine aa rfl (fun K hK=>?_) ag;refine je rfl (.tmp 11) (.tmp 14) 28 rfl v _ _ w6 rfl rfl q ?_;refine hK _ _ ?_;clear hK K;refine aj (rs:=[5]) cJ cM ?_;refine aa rfl (fun K hK=>?_) ag;go_simp
   refine hK _ _ ?_;clear hK K;refine bC cJ ?_ _;exact⟨((jf (W:=W) (W':=w5) ⟨B5.os,B5.tape,B5.output,B5.size,B5.block⟩).trans hk2).from _,fT (fO ⟨B5.os,B5.tape,B5.output,B5.size,B5.block⟩ hsz hO) dI,⟨_,qg,by rw[aN,aL];exact hr2,trivial⟩,fT HHB.out (fT (fO ⟨B5.os,B5.tape,B5.output,B5.size,B5.block⟩ hsz hO) dI)⟩
  go_simp
  refine⟨trivial,rfl,?_⟩;refine(bh l (aP.2 Um.out)).mono ?_;rintro e w5 ⟨rfl,B5⟩;have MK:=gj XM B5 hOd;have l5:=vi (base':=W1.heap.size) Su (an _) (fun g cs fr _ _ hg=>B5.block g (aD.1 hg).1);obtain⟨v',w6,q,hown',hgrow,zu⟩:=gC (P:=prog) (w:=w5.alloc (.cells #[.string (bs (jI x))] 9)) W1.heap.size 28 28 9 i0 (.z) 1 16 underlying28 hi hz0 hz1 hz2 rfl cL v _ _ (l5.alloc _) ⟨w5.heap.size,0,none⟩ 1 1 [.string (bs (jI x))] rfl (qs w5 _ _) (by intro u hu;simp at hu;subst hu;rfl) (by unfold aM;omega) cK (by have:=B5.size;rw[aJ];omega);obtain⟨g',cap',rfl⟩:=bX hown';have hc5:=MK.cell;have hl5:=MK.lt;obtain⟨sN,qg,hr2,hk2,dI⟩:=pQ (n:=W1.heap.size) MK cL l5 (ay Z0 B5.size) (an _) hown' hgrow zu;have hc1:=sN.cell;have AY:=sN.frozen;refine hK _ _ ?_;clear hK K;refine aj (rs:=[0,3]) cJ cM ?_;refine aa rfl (fun K hK=>?_) (aa rfl (fun K hK=>?_) ag)
  ·go_simp
   refine hK _ _ ?_;clear hK K;refine aj (rs:=[3]) cJ cM ?_;refine aa rfl (fun K hK=>?_) ag;go_simp
   refine hK _ _ ?_;clear hK K;refine aj (rs:=[4]) cJ cM ?_;refine aa rfl (fun K hK=>?_) ag;refine je rfl (.tmp 11) (.tmp 14) 28 rfl v _ _ w6 rfl rfl q ?_;refine hK _ _ ?_;clear hK K;refine aj (rs:=[5]) cJ cM ?_;refine aa rfl (fun K hK=>?_) ag;go_simp
   refine hK _ _ ?_;clear hK K;refine bC cJ ?_ _;exact⟨((jf (W:=W) (W':=w5) ⟨B5.os,B5.tape,B5.output,B5.size,B5.block⟩).trans hk2).from _,fT (fO ⟨B5.os,B5.tape,B5.output,B5.size,B5.block⟩ hsz hO) dI,⟨_,qg,by rw[aN,aL];exact hr2,trivial⟩,fT HHB.out (fT (fO ⟨B5.os,B5.tape,B5.output,B5.size,B5.block⟩ hsz hO) dI)⟩
  go_simp
  refine hK _ _ ?_;clear hK K;refine aj (rs:=[0]) cJ cM ?_;refine aa rfl (fun K hK=>?_) ag;go_simp
  refine hK _ _ ?_;clear hK K;refine aj (rs:=[4]) cJ cM ?_;refine aa rfl (fun K hK=>?_) ag;refine je rfl (.tmp 11) (.tmp 14) 28 rfl v _ _ w6 rfl rfl q ?_;refine hK _ _ ?_;clear hK K;refine aj (rs:=[5]) cJ cM ?_;refine aa rfl (fun K hK=>?_) ag;go_simp
  refine hK _ _ ?_;clear hK K;refine bC cJ ?_ _;exact⟨((jf (W:=W) (W':=w5) ⟨B5.os,B5.tape,B5.output,B5.size,B5.block⟩).trans hk2).from _,fT (fO ⟨B5.os,B5.tape,B5.output,B5.size,B5.block⟩ hsz hO) dI,⟨_,qg,by rw[aN,aL];exact hr2,trivial⟩,fT HHB.out (fT (fO ⟨B5.os,B5.tape,B5.output,B5.size,B5.block⟩ hsz hO) dI)⟩
 case done=>
  rintro D zs W hD rfl ⟨⟨v,hv,hrow,_⟩,hB⟩ hK;have hLL:zs.map (fun q=>sv (jI q.1))=(zs.map fun q=>jI q.1).map sv:=by rw[bN];rfl
  have Yk:zs.length=(zs.map fun q=>jI q.1).length:=by rw[aF]
  rw[hLL,Yk] at hrow;have hlen:(zs.map fun q=>jI q.1).length≤1000:=by rw[aF];exact hlen
  have afn:=cD (NN W W1.heap.size v _ hrow hlen);have hc:=hv.cell;have HV:=cD hv;have HB:=cD hB;have HKD:=cD hK;have hrl:∀g,v.ownBlock=some g→W1.heap.size≤g∧∃cs e fr,W.heap[g]?=some (.cells cs e fr):=fun g hg=>by
   rcases hrow.2 with ⟨rfl,_⟩|⟨g',cap,cur,rfl,yG,zy,_⟩
   ·cases hg
   cases hg;exact⟨yG,_,_,_,zy⟩
  have HRL:=cD hrl;clear hLL Yk hrow hlen hv hB hK hrl;gi_wp2_with fail
  refine⟨trivial,?_⟩;refine(aP.2 afn.out).mono ?_;rintro e w' ⟨rfl,hC,hsz,hos,ML,hout,hfr⟩;have hOl:w.heap.size+1+1<W.heap.size:=HV.out.lt;have hDl:D<W.heap.size:=(aD.1 HKD.out).1;have hvO:bg w' (w.heap.size+1+1) 28 v:=(hfr _ hOl (fun e=>by have:=(HRL.out _ e).1;omega)).trans HV.out;have hKD:w'.heap[D]?=some (.deferred (some [])):=(hfr _ hDl (fun e=>by obtain⟨_,_,_,_,h⟩:=HRL.out _ e;rw[HKD.out] at h;cases h)).trans HKD.out;have hcO:=hvO.cell;have HX:=cD (cC hC (cC hsz (cC hos (cC ML (cC hout hfr)))));have akv:=cD hKD;clear hC hsz hos ML hout hfr hKD hvO;gi_wp2
  refine⟨by simp,.inl ⟨_,_,rfl,run_takeDeferred akv.out,?_⟩⟩;obtain⟨hC,hsz,hos,ML,hout,hfr⟩:=HX.out;refine⟨_,results_tmp rfl _ _ _,v,rfl,?_,?_⟩
  ·refine(hC.kept cM (fun g hg=>bH (fun e=>?_))).mono jT.out.size
   subst e;obtain⟨_,_,_,_,h⟩:=HRL.out _ hg;rw[HKD.out] at h;cases h
  have h1:cE w W:=jT.out.trans (kO HB.out cK cK);refine h1.trans ⟨hos,ML,hout,by simpa using hsz,fun k hk=>?_⟩;rw[bH cK];have:=h1.size;exact hfr k cK (fun e=>by have:=(HRL.out _ e).1;omega)
 rintro D c pre W _ _ h _;exact h.elim
section
variable{w:World}{lo:Nat→Prop}{b mb:Nat}{cP:cO}{cS:Int}{M:List (cO×Nd)}
theorem dN.Ht(T:dN w lo b mb cP cS M)(hM:M.length≤1000)(E9:dM w)(hkl:∀x∈M,x.1.length≤1000)(p:cO):
  aQ prog 20 #[.p b,.s p] w fun e W'=>∃v,e=.returned v∧wE W' w.heap.size v (lY cP M p)∧cE w W':=by
 have gQ:b<w.heap.size:=aB T.blk;obtain⟨K,hK⟩:=MF (iu M) (rA hkl);have hLL:(K.filter fun q=>vH cP p q.1).map (fun q=>jI q.1)=((iu M).filter (vH cP p)).map jI:=by
  rw[←hK,←keys_filter,bN];rfl
 have hfl:(K.filter fun q=>vH cP p q.1).length≤1000:=by
  have h1:=Hs cP M p;rw[←hLL,aF] at h1;omega
 unfold lY;rw[←hLL];refine V7 w (some ⟨b,0,none⟩) p (K.filter fun q=>vH cP p q.1) hfl E9 fun W1 MZ hs1 bt bp bo bt2 bw=>?_
 intro l J Jx W hW hJ _ hY h0;have aiZ:=gj bt2 hW cK;have oL:=gj bw hW cK;have hbo:=gj bo hW cK;have Wz:cE w W:=MZ.trans (hW.mono MZ.size);refine Vi 1 l (w.heap.size+1+1+1) (w.heap.size+1+1+1+1) W1.heap.size (w.heap.size+1+1) b mb lo cP cS M hM K hK (fun q=>vH cP p q.1) (w.heap.size+1) w.heap.size J Jx hY W hJ hW.size cK cK cK cK cK cK cK
  aiZ.cell oL.cell (T.below Wz) (by rw[lT hbo];rfl) ?_ h0
 intro W' hk q hq;have hb':cE w W':=Wz.trans (kO hk cK cK);have T':=T.below hb';exact V8 cP p q.1 (w.heap.size+1) w.heap.size b W' (E9.kept hb') q.2 (yS (gj bp hW cK) hk cK cK).cell (yS (gj bt hW cK) hk cK cK).cell T'.cells.1
end
theorem eP.map{w w':ah}{lo:Nat→Prop}{hi mb:Nat}{a:Option aW}{D:cO}(h:eP w lo hi a D){es:Array MapEntry}{c:Nat}(hmb:w.heap[mb]?=some (.map es c))(hk:cQ (·=mb) w w')(hw:hi≤w.heap.size):eP w' lo hi a D:=fun j x hj=>by
 obtain⟨b,off,h1,h2,h3,h4⟩:=h j x hj;refine⟨b,off,h1,h2,h3,(hk.cell (p:=⟨b,off+j,none⟩) (aE h3 hw) (fun e=>?_)).trans h4⟩;have e:b=mb:=e;subst e;simp[World.cell?,hmb] at h4
theorem Reads.map{w w':ah}{lo:Nat→Prop}{mb:Nat}{r:Raw}{d:Nd}(h:Reads w lo r d){es:Array MapEntry}{c:Nat}(hmb:w.heap[mb]?=some (.map es c))(hk:cQ (·=mb) w w'):Reads w' lo r d:=
 ⟨h.num,h.len,(h.data.map hmb hk (an _)).mono (fun _ h=>h) hk.size,h.nil⟩
def vR(cP:cO)(M:List (cO×Nd))(p:cO):Int:=if p=cP then 30 else if (dL p M).isSome=false then 31 else if 0<(lY cP M p).length then 33 else 0
def yH(cP:cO)(M:List (cO×Nd))(p:cO):List (cO×Nd):=if vR cP M p=0 then oO p M else M
section
variable{w:World}{lo:Nat→Prop}{b mb:Nat}{cP:cO}{cS:Int}{M:List (cO×Nd)}
theorem dN.Re(T:dN w lo b mb cP cS M){m:List (cO×Raw)}{M':List (cO×Nd)}{w':ah}(hk:cQ (·=mb) w w')(hm:dS prog 9 sv Raw.val w' mb m)(hl:iV w lo m M')(hbm:b≠mb):dN w' lo b mb cP cS M':=by
 obtain⟨m0,hm0,_⟩:=T.map;obtain⟨es,c,he,_⟩:=hm0;exact⟨(hk.block b (aB T.blk) hbm).trans T.blk,m,hm,hl.imp fun r d h=>h.map he hk⟩
theorem dN.ne(T:dN w lo b mb cP cS M):b≠mb:=fun e=>by
 obtain⟨m0,hm0,_⟩:=T.map;obtain⟨es,c,he,_⟩:=hm0;have:=T.blk;rw[e,he] at this;cases this
theorem dN.Bf(T:dN w lo b mb cP cS M)(hM:M.length≤1000)(E9:dM w)(hkl:∀x∈M,x.1.length≤1000)(p:cO)(hp:p.length≤1000):
  aQ prog 287 #[.p b,.s p] w fun e w'=>e=.returned (.i (vR cP M p))∧dN w' lo b mb cP cS (yH cP M p)∧cQ (·=mb) w w':=by
 obtain⟨r,hr,hq⟩:=T.look (p:=p) (by unfold aM;omega);have q:=hq w rfl;have gQ:b<w.heap.size:=aB T.blk;obtain⟨c0,c1,c2⟩:=T.cells;obtain⟨a,n,c,⟨v1,v2,v3,v4,v5,v6,v7,v8⟩⟩:=r;unfold Raw.val Raw.cells eU.cells at q;dsimp only at q;obtain⟨w2,fH⟩:=cF (w.alloc (.cells #[.slice a n c,.u v1,.u v2,.u v3,.i v4,.u v5,.v v6,.v v7,.v v8] 44));have dI:cE w w2:=by rw[fH];exact cT (aq _ w) _
 have hk2:cQ (·=mb) w w2:=by rw[fH];exact(cQ.refl _ w).alloc _
 have nW:=cD fH;have d0:w2.cell? ⟨b,0,none⟩=some (.s cP):=(dI.cell (p:=⟨b,0,none⟩) gQ).trans c0;have d2:w2.cell? ⟨b,2,none⟩=some (.map (some mb)):=(dI.cell (p:=⟨b,2,none⟩) gQ).trans c2;have HT:=cD T;have HT2:=cD (T.below dI);have UU:=cD hk2;have LS:=cD (E9.kept dI);have t1:=Bp p cP;unfold yH vR;clear hq hr fH dI hk2 E9 T;by_cases h1:p=cP
 ·rw[if_pos h1]
  rw[show decide (p=cP)=true by simpa using h1] at t1;clear h1;go_enter func287,ntmps287
  go_wp2_with fail
  rw[←nW.out];go_wp2
  go_ret
  exact⟨rfl,by simpa using HT2.out,UU.out⟩
 rw[if_neg h1];rw[show decide (p=cP)=false by simpa using h1] at t1;clear h1;cases hs:(dL p M).isSome with
 |false=>
  rw[hs] at q;rw[if_pos rfl];have HS:=cD hs;clear hs;go_enter func287,ntmps287
  go_wp2_with fail
  rw[←nW.out];go_wp2
  go_ret
  exact⟨rfl,by simpa using HT2.out,UU.out⟩
 |true=>
 rw[hs] at q;rw[if_neg cM];have HS:=cD hs;have YP:=cD (HT2.out.Ht hM LS.out hkl p);have hkn:(lY cP M p).length≤1000:=by
  have h1:(lY cP M p).length=_:=(iS _).length_eq;have h2:=Hs cP M p;omega
 have HMM:=cD (cC hM hkl);clear hs hM hkl;generalize lY cP M p=ks at*;by_cases h0:0<ks.length
 ·rw[if_pos h0]
  have h0d:decide ((0:Int)<(ks.length:Int))=true:=by simpa using h0
  go_enter func287,ntmps287
  go_wp2_with fail
  rw[←nW.out];go_wp2_with fail
  refine YP.out.mono ?_;rintro e w3 ⟨v,rfl,hR,B3⟩;obtain⟨a3,c3,rfl,_⟩:=hR.form;have HX:=cD (cC hR B3);clear hR B3;go_wp2
  go_ret
  obtain⟨hR,B3⟩:=HX.out;refine⟨rfl,by simpa using HT2.out.below B3,UU.out.trans ⟨B3.os,B3.tape,B3.output,B3.size,fun k hk _=>B3.block k hk⟩⟩
 rw[if_neg h0];have h0d:decide ((0:Int)<(ks.length:Int))=false:=by simpa using h0
 go_enter func287,ntmps287
 go_wp2_with fail
 rw[←nW.out];go_wp2_with fail
 refine YP.out.mono ?_;rintro e w3 ⟨v,rfl,hR,B3⟩;obtain⟨a3,c3,rfl,_⟩:=hR.form;have DI:=HT2.out.below B3;obtain⟨e0,e1,e2⟩:=DI.cells;obtain⟨m3,AV,hl3⟩:=DI.map;obtain⟨lk,hlk⟩:=zY (p:=p) (by unfold aM;omega);obtain⟨o,ho⟩:=AV.drop oJ tS underlying120 hlk;have qd:=fun ty=>(ho w3 ty rfl).1
 have hd:=(ho w3 0 rfl).2;unfold sv at qd;have hks:cQ (·=mb) w3 (aX w3 mb o):=jE AV.lt o;have hT4:=DI.Re hks hd (hl3.del p) DI.ne;have xJ:cQ (·=mb) w (aX w3 mb o):=(UU.out.trans ⟨B3.os,B3.tape,B3.output,B3.size,fun k hk _=>B3.block k hk⟩).trans hks;have HX:=cD (cC hT4 xJ);clear hR B3 DI e0 e1 AV hl3 hlk ho hd hks hT4 xJ;go_wp2
 go_ret
 obtain⟨hT4,xJ⟩:=HX.out;exact⟨rfl,by simpa using hT4,xJ⟩
end
theorem kD(p:cO)(hp:p.length≤1000):(dm p).length≤1000:=by
 unfold dm;split
 ·simp
 rename_i L hL
 split
 ·exact hp
 have:=zX hL (L.length - 1);rw[←List.dropLast_eq_take] at this;omega
theorem cQ.eT{S:Nat→Prop}{a b:ah}(h:cE a b):cQ S a b:=⟨h.os,h.tape,h.output,h.size,fun k hk _=>h.block k hk⟩
theorem J9{a b:cO}{r:Bool}(h:decide (a=b)=r):((bs a).toList==(bs b).toList)=r∧(!((bs a).toList==(bs b).toList))=!r:=by
 rw[Bp,h];exact⟨rfl,rfl⟩
theorem nine{w:ah}{B:Nat}{u0 u1 u2 u3 u4 u5 u6 u7 u8:aI}{t:aU}(h:w.heap[B]?=some (.cells #[u0,u1,u2,u3,u4,u5,u6,u7,u8] t (0,0))):
  w.cell? ⟨B,0,none⟩=some u0∧w.cell? ⟨B,1,none⟩=some u1∧w.cell? ⟨B,2,none⟩=some u2∧w.cell? ⟨B,3,none⟩=some u3∧w.cell? ⟨B,4,none⟩=some u4∧w.cell? ⟨B,5,none⟩=some u5∧w.cell? ⟨B,6,none⟩=some u6∧w.cell? ⟨B,7,none⟩=some u7∧w.cell? ⟨B,8,none⟩=some u8:=
 ⟨af _ _ 0 _ t (0,0) h,af _ _ 1 _ t (0,0) h,af _ _ 2 _ t (0,0) h,af _ _ 3 _ t (0,0) h,af _ _ 4 _ t (0,0) h,af _ _ 5 _ t (0,0) h,af _ _ 6 _ t (0,0) h,af _ _ 7 _ t (0,0) h,af _ _ 8 _ t (0,0) h⟩
theorem Le{W w5:ah}(h:Below W.drew.heap.size W.drew w5):cE W w5:=⟨h.os,h.tape,h.output,h.size,h.block⟩
theorem aaW{W w5:ah}{o:Obj}(h:Below (W.drew.alloc o).heap.size (W.drew.alloc o) w5):cE W w5:=by
 have h1:cE W (W.drew.alloc o):=(aq _ W).drew.alloc (an _) _;exact h1.trans (h.mono h1.size)
theorem acW{W w5:ah}{u0 u1 u2 u3 u4 u5 u6 u7 u8:aI}{t:aU}(h:Below (W.drew.alloc (.cells #[u0,u1,u2,u3,u4,u5,u6,u7,u8] t)).heap.size (W.drew.alloc (.cells #[u0,u1,u2,u3,u4,u5,u6,u7,u8] t)) w5):
  w5.heap[W.heap.size]?=some (.cells #[u0,u1,u2,u3,u4,u5,u6,u7,u8] t (0,0)):=
 (h.block W.heap.size (by rw[aJ];exact Nat.lt_succ_self W.heap.size)).trans (aH W.drew _)
theorem IN{B:Nat}{W w5:ah}(h:Below B W w5)(j:Nat)(v:aI):Below B W (w5.setCell ⟨B,j,none⟩ v):=h.setCell (an _) v
theorem frozen0{w:ah}{B:Nat}{cs:Array aI}{t:aU}(h:w.heap[B]?=some (.cells cs t (0,0))):∀j,w.frozen? ⟨B,j,none⟩=false:=fun j=>by simp[World.frozen?,h]
def akN(w2:ah)(r2:Bool)(t10:aI)(wc:ah):Prop:=t10=.bool r2∧cE w2 wc
def Ay(cP:cO)(M:List (cO×Nd))(p:cO):Int:=if p≠cP∧(dL (dm p) M).isSome=false then 31 else if (dL p M).isSome=false∧48≤M.length then 36 else 0
def Gu(cP:cO)(M:List (cO×Nd))(p:cO)(d:Nd):List (cO×Nd):=if Ay cP M p=0 then iL p d M else M
abbrev IW(lo:Nat→Prop)(n:Nat):Nat→Prop:=fun k=>lo k∨n≤k
def Xf(lo:Nat→Prop)(b mb:Nat)(cP:cO)(cS:Int)(M:List (cO×Nd))(w:ah)(x:Int)(e:Ending)(w':ah):Prop:=
 e=.returned (.i x)∧dN w' (IW lo w.heap.size) b mb cP cS M∧cQ (·=mb) w w'
section
variable{w:World}{lo:Nat→Prop}{b mb:Nat}{cP:cO}{cS:Int}{M:List (cO×Nd)}
theorem dN.wide(T:dN w lo b mb cP cS M){lo':Nat→Prop}(h:∀k,lo k→lo' k):dN w lo' b mb cP cS M:=by
 obtain⟨m,h1,h2⟩:=T.map;exact⟨T.blk,m,h1,h2.imp fun _ _ hr=>hr.mono h⟩
theorem dN.setAt(T:dN w lo b mb cP cS M)(p:cO)(hp:p.length≤1000){w7:ah}(B7:cE w w7)(r:Raw)(d:Nd)(R7:Reads w7 (fU w.heap.size) r d):
  ∃o,(Instr.mapUpdate 120 (.map (some mb)) (.s p) r.val).run prog w7=.ok () (aX w7 mb o)∧
   Hid (dN (aX w7 mb o) (IW lo w.heap.size) b mb cP cS (iL p d M)∧cQ (·=mb) w (aX w7 mb o)):=by
 have T7:=T.below B7;obtain⟨m,hm,hl⟩:=T7.map;obtain⟨lk,hlk⟩:=zY (p:=p) (by unfold aM;omega);obtain⟨o,ho⟩:=hm.update oJ tS underlying120 r hlk;obtain⟨h1,h2⟩:=ho w7 rfl;have hk:cQ (·=mb) w7 (aX w7 mb o):=jE hm.lt o;refine⟨o,h1,cD ⟨?_,(cQ.eT B7).trans hk⟩⟩;have hl2:iV w7 (IW lo w.heap.size) m M:=hl.imp fun _ _ h=>h.mono fun k hk=>.inl hk
 exact(T7.wide (lo':=IW lo w.heap.size) (fun k hk=>.inl hk)).Re hk h2 (hl2.put p (R7.mono fun k hk=>.inr hk)) T7.ne
theorem dN.Vw(T:dN w lo b mb cP cS M)(E9:dM w)(p:cO)(hp:p.length≤1000)(r:Raw)(d:Nd){lr:Nat→Prop}(hr:Reads w lr r d)(hdl:d.data.length≤1000000):
  aQ prog 288 #[.p b,.s p,r.val] w (Xf lo b mb cP cS (Gu cP M p d) w (Ay cP M p)):=by
 obtain⟨r1,hroot⟩:∃r1,decide (p=cP)=r1:=⟨_,rfl⟩;obtain⟨r2,hpar⟩:∃r2,(dL (dm p) M).isSome=r2:=⟨_,rfl⟩;obtain⟨r3,his⟩:∃r3,(dL p M).isSome=r3:=⟨_,rfl⟩;have hE:Ay cP M p=if r1=false∧r2=false then 31 else if r3=false∧48≤M.length then 36 else 0:=by
  unfold Ay;rw[hpar,his,←hroot];simp
 unfold Gu;rw[hE];clear hE;obtain⟨rp,hrp,hq⟩:=T.look (p:=p) (by unfold aM;omega);have hpl:=kD p hp;obtain⟨rq,hrq,hqq⟩:=T.look (p:=dm p) (by unfold aM;omega);have gQ:b<w.heap.size:=aB T.blk;obtain⟨c0,c1,c2⟩:=T.cells;obtain⟨a,n,c,⟨v1,v2,v3,v4,v5,v6,v7,v8⟩⟩:=r;obtain⟨a1,n1,c1',⟨x1,x2,x3,x4,x5,x6,x7,x8⟩⟩:=rp;obtain⟨a2,n2,c2',⟨y1,y2,y3,y4,y5,y6,y7,y8⟩⟩:=rq;obtain⟨w1,hw1⟩:=cF (w.alloc (.cells #[.slice a n c,.u v1,.u v2,.u v3,.i v4,.u v5,.v v6,.v v7,.v v8] 44));have dB:cE w w1:=by rw[hw1];exact cT (aq _ w) _
 have hs1:w1.heap.size=w.heap.size+1:=by rw[hw1];simp
 have g1:w1.heap[w.heap.size]?=some (.cells #[.slice a n c,.u v1,.u v2,.u v3,.i v4,.u v5,.v v6,.v v7,.v v8] 44 (0,0)):=by rw[hw1];exact aH w _
 have T1:=T.below dB;have adU:w1.heap[mb]?=w.heap[mb]?:=by obtain⟨m0,hm0,_⟩:=T.map;exact dB.block _ hm0.lt
 have q1:=hq w1 adU;unfold Raw.val Raw.cells eU.cells at q1 hqq;unfold Raw.val Raw.cells eU.cells;dsimp only at q1 hqq⊢;have c01:w1.cell? ⟨b,0,none⟩=some (.s cP):=T1.cells.1;have Lw:w1.cell? ⟨b,2,none⟩=some (.map (some mb)):=T1.cells.2.2;obtain⟨w2,fH⟩:=cF (w1.alloc (.cells #[.slice a1 n1 c1',.u x1,.u x2,.u x3,.i x4,.u x5,.v x6,.v x7,.v x8] 44));have ue:cE w1 w2:=by rw[fH];exact cT (aq _ w1) _
 have dI:cE w w2:=dB.trans (ue.mono dB.size);have g2:w2.heap[w.heap.size]?=some (.cells #[.slice a n c,.u v1,.u v2,.u v3,.i v4,.u v5,.v v6,.v v7,.v v8] 44 (0,0)):=(ue.block _ cK).trans g1;have T2:=T.below dI;have e0:w2.cell? ⟨b,0,none⟩=some (.s cP):=T2.cells.1;have e2:w2.cell? ⟨b,2,none⟩=some (.map (some mb)):=T2.cells.2.2;have Wy:b<w2.heap.size:=aB T2.blk;have HQQ:=cD hqq;have akg:=cD (tG (E9.kept dI) p hp);have adT:w2.heap[mb]?=w.heap[mb]?:=by obtain⟨m0,hm0,_⟩:=T.map;exact dI.block _ hm0.lt
 have adR:mb<w2.heap.size:=by obtain⟨m0,hm0,_⟩:=T2.map;exact hm0.lt
 have akq:=cD adT;have iK:=cD dI;have HT:=cD T;have HG2:=cD g2;have nS:=cD hw1;have nW:=cD fH;have HR:=cD hr;obtain⟨ne1,ne2⟩:=J9 hroot;rw[hw1] at q1;rw[his] at q1;rw[hpar] at HQQ;clear his hpar hq hqq hw1 fH dB ue dI hs1 g1 g2 T1 T2 adU adT T hrp hrq hr hpl E9 c1 hroot c01 Lw;go_enter func288,ntmps288
 go_wp2_with fail
 rw[←nS.out,←nW.out];clear c0 c2 q1;go_cut [10] (fun t10 wc=>akN w2 r2 t10 wc)
 case first=>
  go_region_with (go_at_call 54;refine(akg.out _ (by first|exact(aq _ _).drew|exact(aq _ _).drew.alloc (an _) _)).mono ?_;rintro e w5 ⟨rfl,B5⟩;have B5w:cE w2 w5:=(by first|exact Le B5|exact aaW B5);have ct:w5.cell? ⟨b,2,none⟩=some (.map (some mb)):=(B5w.cell (p:=⟨b,2,none⟩) Wy).trans e2;have Cv:=aE Wy B5w.size;have hm5:w5.heap[mb]?=w.heap[mb]?:=(B5w.block mb adR).trans akq.out;have q5:=HQQ.out w5 hm5;have q6:=(fun o=>HQQ.out (w5.alloc o) ((heap_alloc_old _ _ (aE adR B5w.size)).trans hm5));(first|(have hn9:=acW B5;obtain⟨k0,k1,k2,k3,k4,k5,k6,k7,k8⟩:=nine hn9;have kf:=frozen0 hn9;clear hn9)|skip))
  all_goals
   have X5:=cD B5w;clear B5 B5w hm5 q5 q6 ct;go_wp2
   go_meet
   refine⟨rfl,?_⟩;have hs5:=X5.out.size
   repeat (first|(with_reducible exact X5.out)|(with_reducible refine IN ?_ _ _)|(with_reducible refine Below.alloc ?_ hs5 _))
 obtain⟨rfl,Fh⟩:=hcut;have WB:cE w wc:=iK.out.trans (Fh.mono iK.out.size);have f0:wc.cell? ⟨b,0,none⟩=some (.s cP):=(Fh.cell (p:=⟨b,0,none⟩) Wy).trans e0;have f2:wc.cell? ⟨b,2,none⟩=some (.map (some mb)):=(Fh.cell (p:=⟨b,2,none⟩) Wy).trans e2;have UR:=cD (HT.out.below WB);have adX:w.heap.size<w2.heap.size:=aB HG2.out;have Uk:=cD ((Fh.block _ adX).trans HG2.out);have Un:=cD WB;have US:=cD (HR.out.below WB);clear Fh WB e0 e2;have HMl:=cD UR.out.map;obtain⟨m6,hm6,Qs⟩:=HMl.out;have ql:=fun ty=>hm6.Ey underlying120 ty
 rw[Qs.len] at ql;clear HMl hm6 Qs;have yF:(r1=false∧r2=false)∨((r1=true∨r1=false∧r2=true)∧r3=false∧48≤M.length)∨((r1=true∨r1=false∧r2=true)∧r3=true)∨((r1=true∨r1=false∧r2=true)∧r3=false∧M.length<48):=by
  cases r1<;>cases r2<;>cases r3<;>simp<;>omega
 rcases yF with ⟨rfl,rfl⟩|⟨hr,rfl,hf⟩|⟨hr,rfl⟩|⟨hr,rfl,hf⟩
 ·simp only[aS,aV] at ne2
  go_wp2
  go_ret
  exact⟨rfl,by simpa using UR.out.wide (fun k h=>.inl h),cQ.eT Un.out⟩
 ·have hfd:decide ((48:Int)≤(M.length:Int))=true:=by simpa using (by omega:(48:Int)≤(M.length:Int))
  have HF:=cD hf;clear hf;rcases hr with rfl|⟨rfl,rfl⟩
  all_goals
   simp only[aS,aV] at ne2;go_wp2
   go_ret
   exact⟨by simp[HF.out],by simpa [HF.out] using UR.out.wide (fun k h=>.inl h),cQ.eT Un.out⟩
 ·rcases hr with rfl|⟨rfl,rfl⟩
  all_goals
   simp only[aS,aV] at ne2;go_wp2_with fail
   obtain⟨k0,k1,k2,k3,k4,k5,k6,k7,k8⟩:=nine Uk.out;have Ff:b<wc.heap.size:=aB UR.out.blk;have aiC:w.heap.size<wc.heap.size:=aB Uk.out;have Ug:=cD (EJ wc.drew lr ⟨a,n,c,⟨v1,v2,v3,v4,v5,v6,v7,v8⟩⟩ d ⟨US.out.num,US.out.len,US.out.data,US.out.nil⟩ hdl);have HHP:=cD hp;clear hp hdl ql ne1 ne2 f0;go_region_with (go_at_call 205;refine Ug.out.mono ?_;rintro e w7 ⟨r9,rfl,R7,B7,_⟩;have B7w:=Le B7;have j2:w7.cell? ⟨b,2,none⟩=some (.map (some mb)):=(B7w.cell (p:=⟨b,2,none⟩) Ff).trans f2;obtain⟨o7,q7,HX⟩:=UR.out.setAt p HHP.out B7w r9 d R7;clear R7 B7w)
   all_goals
    clear B7 q7 j2;go_wp2
    go_ret
    exact⟨rfl,by simpa using HX.out.1.wide (fun k h=>h.imp_right (ay Un.out.size)),(cQ.eT Un.out).trans HX.out.2⟩
 have hfd:decide ((48:Int)≤(M.length:Int))=false:=by simpa using (by omega:(M.length:Int)<48)
 have HF:=cD hf;have adO:¬48≤M.length:=by omega
 have HF2:=cD adO;clear hf adO;rcases hr with rfl|⟨rfl,rfl⟩
 all_goals
  simp only[aS,aV] at ne2;go_wp2_with fail
  obtain⟨k0,k1,k2,k3,k4,k5,k6,k7,k8⟩:=nine Uk.out;have Ff:b<wc.heap.size:=aB UR.out.blk;have aiC:w.heap.size<wc.heap.size:=aB Uk.out;have Ug:=cD (EJ wc.drew lr ⟨a,n,c,⟨v1,v2,v3,v4,v5,v6,v7,v8⟩⟩ d ⟨US.out.num,US.out.len,US.out.data,US.out.nil⟩ hdl);have HHP:=cD hp;clear hp hdl ql ne1 ne2 f0;go_region_with (go_at_call 205;refine Ug.out.mono ?_;rintro e w7 ⟨r9,rfl,R7,B7,_⟩;have B7w:=Le B7;have j2:w7.cell? ⟨b,2,none⟩=some (.map (some mb)):=(B7w.cell (p:=⟨b,2,none⟩) Ff).trans f2;obtain⟨o7,q7,HX⟩:=UR.out.setAt p HHP.out B7w r9 d R7;clear R7 B7w)
  all_goals
   clear B7 q7 j2;go_wp2
   go_ret
   exact⟨by simp[HF2.out],by simpa [HF2.out] using HX.out.1.wide (fun k h=>h.imp_right (ay Un.out.size)),(cQ.eT Un.out).trans HX.out.2⟩
end
structure gm where
 cW:cO
 gone:Bool
 node:Nd
 deriving DecidableEq
structure kU(w:ah)(lo:Nat→Prop)(r:dr)(e:gm):Prop where
 cW:r.cW=e.cW
 gone:r.gone=e.gone
 node:Reads w lo r.node e.node
theorem kU.below{w w':ah}{lo:Nat→Prop}{r:dr}{d:gm}(h:kU w lo r d)(hb:cE w w'):kU w' lo r d:=⟨h.cW,h.gone,h.node.below hb⟩
def ff(w:ah)(lo:Nat→Prop)(L:List dr)(E:List gm):Prop:=L.length=E.length∧∀(k:Nat) (r:dr) (e:gm),L[k]?=some r→E[k]?=some e→kU w lo r e
theorem ff.below{w w':ah}{lo:Nat→Prop}{L:List dr}{E:List gm}(h:ff w lo L E)(hb:cE w w'):ff w' lo L E:=⟨h.1,fun k r e h1 h2=>(h.2 k r e h1 h2).below hb⟩
def gH(w:ah)(B:Nat)(ao:Option aW)(L:List dr):Prop:=∀k r,L[k]?=some r→∃b off,ao=some ⟨b,off,none⟩∧b<B∧w.rangeAt b (off+k*11) r.cells
theorem gH.below{w w':ah}{B:Nat}{ao:Option aW}{L:List dr}(h:gH w B ao L)(hb:Below B w w'):gH w' B ao L:=fun k r hk=>by
 obtain⟨b,off,h1,h2,h3⟩:=h k r hk;exact⟨b,off,h1,h2,dR h3 hb h2⟩
theorem gH.mono{w:ah}{B B':Nat}{ao:Option aW}{L:List dr}(h:gH w B ao L)(hB:B≤B'):gH w B' ao L:=fun k r hk=>by
 obtain⟨b,off,h1,h2,h3⟩:=h k r hk;exact⟨b,off,h1,by omega,h3⟩
def kY(cP:cO)(M:List (cO×Nd))(e:gm):Int:=if eB e.cW cP=false then 30 else if e.gone=true then vR cP M e.cW else Ay cP M e.cW
def nB(cP:cO)(M:List (cO×Nd))(e:gm):List (cO×Nd):=if eB e.cW cP=false then M else if e.gone=true then yH cP M e.cW else Gu cP M e.cW e.node
def dU(cP:cO):List (cO×Nd)→List gm→Int×List (cO×Nd)
 |M,[]=>(0,M)
 |M,e::l=>if kY cP M e=0 then dU cP (nB cP M e) l else (kY cP M e,M)
theorem jm{cP:cO}{M:List (cO×Nd)}{e:gm}{l:List gm}(h:kY cP M e=0):dU cP M (e::l)=dU cP (nB cP M e) l:=if_pos h
theorem ur{cP:cO}{M:List (cO×Nd)}{e:gm}{l:List gm}(h:kY cP M e≠0):dU cP M (e::l)=(kY cP M e,M):=if_neg h
theorem yU(cP:cO)(e:gm):∀(l:List gm) (M:List (cO×Nd)),(dU cP M l).1=0→dU cP M (l++[e])=if kY cP (dU cP M l).2 e=0 then (0,nB cP (dU cP M l).2 e) else (kY cP (dU cP M l).2 e,(dU cP M l).2)
 |[],M,_=>rfl
 |x::l,M,h=>by
  rw[bu];by_cases h0:kY cP M x=0
  ·have hx:=jm (l:=l) h0
   have hx2:=jm (l:=l++[e]) h0;rw[hx] at h;rw[hx2,yU cP e l _ h];simp only[hx]
  ·rw[ur h0] at h
   exact absurd h h0
theorem yT(cP:cO)(l2:List gm):∀(l:List gm) (M:List (cO×Nd)),(dU cP M l).1≠0→dU cP M (l++l2)=dU cP M l
 |[],M,h=>by simp[dU] at h
 |x::l,M,h=>by
  simp only[bu,dU] at h⊢;split at h
  ·rename_i h0
   rw[if_pos h0,if_pos h0];exact yT cP l2 l _ h
  ·rename_i h0
   rw[if_neg h0,if_neg h0]
structure Fit(M:List (cO×Nd)):Prop where
 len:M.length≤48
 cW:∀x∈M,x.1.length≤1000
 data:∀x∈M,x.2.data.length≤1000000
structure BS(e:gm):Prop where
 cW:e.cW.length≤1000
 data:e.node.data.length≤1000000
theorem qX{p:cO}{d:Nd}:∀{M:List (cO×Nd)} {x:cO×Nd},x∈iL p d M→x=(p,d)∨x∈M
 |[],x,h=>by simp[iL] at h;exact .inl h
 |y::M,x,h=>by
  unfold iL at h;split at h
  ·rcases List.mem_cons.1 h with h|h
   ·exact .inl h
   ·exact .inr (aR _ h)
  ·rcases List.mem_cons.1 h with h|h
   ·exact .inr (h▸bW ..)
   ·rcases qX h with h|h
    ·exact .inl h
    ·exact .inr (aR _ h)
theorem qY{p:cO}{d:Nd}:∀{M:List (cO×Nd)},(iL p d M).length=if (dL p M).isSome then M.length else M.length+1
 |[]=>by simp[iL,dL]
 |y::M=>by
  unfold iL dL;split
  ·simp
  ·rw[List.length_cons,qY]
   split<;>simp
theorem nM{p:cO}:∀{M:List (cO×Nd)},(oO p M).Sublist M
 |[]=>List.Sublist.refl _
 |y::M=>by
  unfold oO;split
  ·exact List.sublist_cons_self _ _
  ·exact nM.cons_cons _
theorem Fit.one{cP:cO}{M:List (cO×Nd)}(h:Fit M){e:gm}(he:BS e):Fit (nB cP M e):=by
 unfold nB;split
 ·exact h
 split
 ·unfold yH
  split
  ·exact⟨ay (nM.length_le) h.len,fun x hx=>h.cW x (nM.subset hx),fun x hx=>h.data x (nM.subset hx)⟩
  exact h
 unfold Gu;split
 ·rename_i h0
  refine⟨?_,fun x hx=>?_,fun x hx=>?_⟩
  ·rw[qY]
   unfold Ay at h0;split at h0
   ·cases h0
   split at h0
   ·cases h0
   rename_i h2
   have:=h.len;split
   ·exact h.len
   rename_i h3
   have h3:(dL e.cW M).isSome=false:=by simpa using h3
   have:¬48≤M.length:=fun h4=>h2 ⟨h3,h4⟩
   omega
  ·rcases qX hx with rfl|hx
   ·exact he.cW
   exact h.cW x hx
  rcases qX hx with rfl|hx
  ·exact he.data
  exact h.data x hx
 exact h
theorem Fit.all{cP:cO}:∀{E:List gm} {M:List (cO×Nd)},Fit M→(∀e∈E,BS e)→Fit (dU cP M E).2
 |[],M,h,_=>h
 |e::E,M,h,hE=>by
  unfold dU;split
  ·exact Fit.all (h.one (hE e (bW ..))) (fun x hx=>hE x (aR _ hx))
  ·exact h
end
def oz(l:cO):cO:=match EG l with
 |none=>[]
 |some L=>if L=[] then l else zn L.dropLast
def ahO(cP p q:cO):Bool:=!decide (q=p)&&!decide (q=cP)&&decide (oz q=p)
theorem Kh(cP:cO)(M:List (cO×Nd))(p:cO):(lY cP M p).length=(M.filter fun x=>vH cP p x.1).length:=by
 have h1:(lY cP M p).length=_:=(iS _).length_eq;rw[h1,aF];have h2:=((iS (M.map (·.1))).filter (vH cP p)).length_eq;unfold iu;rw[h2,List.filter_map,aF];rfl
theorem Sb(cP:cO)(M:List (cO×Nd))(p:cO):(0<(lY cP M p).length)↔(M.any fun x=>vH cP p x.1)=true:=by
 rw[Kh,List.length_pos_iff_exists_mem,List.any_eq_true];constructor
 ·rintro⟨x,hx⟩
  have:=List.mem_filter.1 hx;exact⟨x,this.1,this.2⟩
 rintro⟨x,h1,h2⟩;exact⟨x,List.mem_filter.2 ⟨h1,h2⟩⟩
def pR:cO:=[47,114]
def Oe:cO:=[47,114,47,97]
def M0:List (cO×Nd):=[(pR,iQ)]
section
open Go.RowKit Go.Shelf Go.MapKept Go.ChangeMaps Go.Maps Go.Sort
theorem eP.iN{w w':ah}{lo:Nat→Prop}{hi b:Nat}{a:Option aW}{D:cO}(h:eP w lo hi a D){s:ByteArray}{x:Int}{y:Option Nat}{t:aU}(hb:w.heap[b]?=some (.cells #[.string s,.v x,.map y] t (0,0)))(hk:cQ (·=b) w w')(hw:hi≤w.heap.size):eP w' lo hi a D:=fun j c hj=>by
 obtain⟨g,off,h1,h2,h3,h4⟩:=h j c hj;refine⟨g,off,h1,h2,h3,(hk.cell (p:=⟨g,off+j,none⟩) (aE h3 hw) (fun e=>?_)).trans h4⟩;have e:g=b:=e;subst e;rw[af _ _ (off+j) _ t (0,0) hb] at h4;generalize off+j=k at h4;rcases(show k=0∨k=1∨k=2∨3≤k by omega) with rfl|rfl|rfl|xJ
 ·simp at h4
 ·simp at h4
 ·simp at h4
 ·rw[Array.getElem?_eq_none (by simpa using xJ)] at h4
  cases h4
theorem Reads.iN{w w':ah}{lo:Nat→Prop}{b:Nat}{r:Raw}{d:Nd}(h:Reads w lo r d){s:ByteArray}{x:Int}{y:Option Nat}{t:aU}(hb:w.heap[b]?=some (.cells #[.string s,.v x,.map y] t (0,0)))(hk:cQ (·=b) w w'):Reads w' lo r d:=
 ⟨h.num,h.len,(h.data.iN hb hk (an _)).mono (fun _ h=>h) hk.size,h.nil⟩
theorem Qb{cP:cO}{M:List (cO×Nd)}{E:List gm}{i:Nat}{e:gm}(h0:(dU cP M (E.take i)).1=0)(he:E[i]?=some e):
  (kY cP (dU cP M (E.take i)).2 e≠0→dU cP M E=(kY cP (dU cP M (E.take i)).2 e,(dU cP M (E.take i)).2))∧
  (kY cP (dU cP M (E.take i)).2 e=0→dU cP M (E.take (i+1))=(0,nB cP (dU cP M (E.take i)).2 e)):=by
 have hs:E.take (i+1)=E.take i++[e]:=by rw[bY,he];rfl
 have h1:=yU cP e (E.take i) M h0;refine⟨fun h=>?_,fun h=>?_⟩
 ·rw[if_neg h] at h1
  have h2:=yT cP (E.drop (i+1)) (E.take (i+1)) M (by rw[hs,h1];exact h);rw[List.take_append_drop] at h2;rw[h2,hs,h1]
 rw[hs,h1,if_pos h]
def Eh(lo:Nat→Prop)(b:Nat)(cP:cO)(cS:Int)(M:List (cO×Nd))(w:ah)(x:Int×List (cO×Nd))(e:Ending)(w':ah):Prop:=
 ∃s9,e=.returned (.i x.1)∧dN w' (IW lo w.heap.size) b s9 cP (if x.1=0 then cS+1 else cS) (if x.1=0 then x.2 else M)∧cQ (·=b) w w'
structure akT(lo:Nat→Prop)(b' s9:Nat)(cP:cO)(cS:Int)(M:List (cO×Nd))(E:List gm)(w w1:ah)(i:Nat)(wr:ah):Prop where
 tree:dN wr (IW lo w.heap.size) b' s9 cP cS (dU cP M (E.take i)).2
 ok:(dU cP M (E.take i)).1=0
 kept:cQ (·=s9) w1 wr
theorem Mx{x:Int}(h:x≠0):(x==0)=false∧(!(x==0))=true:=by simp[h]
theorem eq_int{x:Int}(h:x=0):(x==0)=true∧(!(x==0))=false:=by simp[h]
section
variable{w:World}{lo:Nat→Prop}{b mb:Nat}{cP:cO}{cS:Int}{M:List (cO×Nd)}
theorem dN.swap{lo':Nat→Prop}{b' s9:Nat}{root':cO}{at':Int}{M':List (cO×Nd)}(T:dN w lo b mb cP cS M)(T':dN w lo' b' s9 root' at' M')(hb:b≠b'):
  dN ((w.setCell ⟨b,2,none⟩ (.map (some s9))).setCell ⟨b,1,none⟩ (.v (cS+1))) lo' b s9 cP (cS+1) M'∧cQ (·=b) w ((w.setCell ⟨b,2,none⟩ (.map (some s9))).setCell ⟨b,1,none⟩ (.v (cS+1))):=by
 have hk:cQ (·=b) w ((w.setCell ⟨b,2,none⟩ (.map (some s9))).setCell ⟨b,1,none⟩ (.v (cS+1))):=(((cQ.refl (·=b) w).setCell (p:=⟨b,2,none⟩) rfl _).setCell (p:=⟨b,1,none⟩) rfl _);obtain⟨m,hm,hl⟩:=T'.map;have hbm:s9≠b:=fun e=>by
  obtain⟨es,c,h1,_⟩:=hm;rw[e,T.blk] at h1;cases h1
 refine⟨⟨?_,m,hm.of_block (hk.block _ hm.lt hbm),hl.imp fun r d h=>h.iN T.blk hk⟩,hk⟩;simp[World.setCell,bP,T.blk]
theorem dN.sF(T:dN w lo b mb cP cS M)(E9:dM w)(hfit:Fit M)(hrl:cP.length≤1000)(h0:0≤cS)(h1:cS≤1000000000)(ao:Option aW)(cap:Nat)(L:List dr)(E:List gm){lr:Nat→Prop}
  (hL:ff w lr L E) (hA:gH w w.heap.size ao L) (hE:∀e∈E,BS e) (hbig:L.length≤1000000):
  aQ prog 249 #[.p b,.slice ao L.length cap] w (Eh lo b cP cS M w (dU cP M E)):=by
 obtain⟨N,hN⟩:=cF L.length;have hNE:N=E.length:=hN.trans hL.1;rw[←hN] at hbig⊢;have pT:=cD T.mW;have HT:=cD T;have zQ:=cD (cC hL (cC hA (cC hE (cC hfit (cC E9 (cC hN hNE))))));have gQ:b<w.heap.size:=aB T.blk;clear T E9 hfit hL hA hE hN hNE;go_enter func249,ntmps249
 go_wp2_with fail
 refine pT.out.mono ?_;rintro e w1 ⟨b',s9,rfl,T1,hb',aoP,hne,B1⟩;have yZ:=cD T1;have jT:=cD B1;have hs1:=B1.size;clear T1 B1;go_wp2
 go_loopw [15] (fun p wr=>∃i:Nat,i≤N∧p=.i i∧Hid (akT lo b' s9 cP cS M E w w1 i wr))
  (fun p _=>N - (intOf p).toNat)
 case atStart=>
  exact⟨0,by omega,rfl,cD ⟨(yZ.out.wide (fun k h=>.inl h)),rfl,cQ.refl _ _⟩⟩
 obtain⟨i,hi,rfl,HS⟩:=hrel;by_cases hlt:i<N
 ·obtain⟨hL,hA,hE,hfit,E9,hN,hNE⟩:=zQ.out
  obtain⟨r,hr⟩:∃r,L[i]?=some r:=⟨_,aK cK⟩;obtain⟨e,he⟩:∃e,E[i]?=some e:=⟨_,aK cK⟩;obtain⟨q1,q2,q3⟩:=hL.2 i r e hr he;obtain⟨bb,off,rfl,jt,fS⟩:=hA i r hr;have hfe:=hE e (List.mem_of_getElem? he);obtain⟨hno,hyes⟩:=Qb (cP:=cP) (M:=M) HS.out.ok he;obtain⟨S1,S2,S3⟩:=HS.out;have hfi:Fit (dU cP M (E.take i)).2:=Fit.all hfit (fun x hx=>hE x (List.mem_of_mem_take hx));obtain⟨p,g,⟨a,n,c,⟨v1,v2,v3,v4,v5,v6,v7,v8⟩⟩⟩:=r;obtain⟨p',g',nd⟩:=e;dsimp only at q1 q2 q3;subst q1 q2;generalize (dU cP M (E.take i)).2=Mi at*;have dB:Below w.heap.size w1 wr:=S3.below hs1 (fun k h=>by omega);have oL:cE w wr:=jT.out.trans dB;have hrw:=dR fS oL jt;have k0:wr.cell? ⟨bb,off+i*11,none⟩=some (.s p):=hrw 0 _ rfl;have k1:wr.cell? ⟨bb,off+i*11+1,none⟩=some (.bool g):=hrw 1 _ rfl;have k2:wr.cell? ⟨bb,off+i*11+2,none⟩=some (.slice a n c):=hrw 2 _ rfl;have k3:wr.cell? ⟨bb,off+i*11+3,none⟩=some (.u v1):=hrw 3 _ rfl;have k4:wr.cell? ⟨bb,off+i*11+4,none⟩=some (.u v2):=hrw 4 _ rfl;have k5:wr.cell? ⟨bb,off+i*11+5,none⟩=some (.u v3):=hrw 5 _ rfl;have k6:wr.cell? ⟨bb,off+i*11+6,none⟩=some (.i v4):=hrw 6 _ rfl;have k7:wr.cell? ⟨bb,off+i*11+7,none⟩=some (.u v5):=hrw 7 _ rfl;have k8:wr.cell? ⟨bb,off+i*11+8,none⟩=some (.v v6):=hrw 8 _ rfl;have k9:wr.cell? ⟨bb,off+i*11+9,none⟩=some (.v v7):=hrw 9 _ rfl;have ZL:wr.cell? ⟨bb,off+i*11+10,none⟩=some (.v v8):=hrw 10 _ rfl;obtain⟨wa,vO⟩:=cF (wr.alloc (.cells #[.s p,.bool g,.slice a n c,.u v1,.u v2,.u v3,.i v4,.u v5,.v v6,.v v7,.v v8] 93));have hba:cE wr wa:=by rw[vO];exact cT (aq _ wr) _
  have ga:wa.heap[wr.heap.size]?=some (.cells #[.s p,.bool g,.slice a n c,.u v1,.u v2,.u v3,.i v4,.u v5,.v v6,.v v7,.v v8] 93 (0,0)):=by rw[vO];exact aH wr _
  have zy:∀o,(gR wa o).heap[wr.heap.size]?=some (.cells #[.s p,.bool g,.slice a n c,.u v1,.u v2,.u v3,.i v4,.u v5,.v v6,.v v7,.v v8] 93 (0,0)):=fun o=>((gR.below wa o).block _ (aB ga)).trans ga
  have f0:∀o,(gR wa o).cell? ⟨wr.heap.size,0,none⟩=some (.s p):=fun o=>af _ _ 0 _ 93 (0,0) (zy o)
  have f1:∀o,(gR wa o).cell? ⟨wr.heap.size,1,none⟩=some (.bool g):=fun o=>af _ _ 1 _ 93 (0,0) (zy o)
  have f2:∀o,(gR wa o).cell? ⟨wr.heap.size,2,none⟩=some (.slice a n c):=fun o=>af _ _ 2 _ 93 (0,0) (zy o)
  have f3:∀o,(gR wa o).cell? ⟨wr.heap.size,3,none⟩=some (.u v1):=fun o=>af _ _ 3 _ 93 (0,0) (zy o)
  have f4:∀o,(gR wa o).cell? ⟨wr.heap.size,4,none⟩=some (.u v2):=fun o=>af _ _ 4 _ 93 (0,0) (zy o)
  have f5:∀o,(gR wa o).cell? ⟨wr.heap.size,5,none⟩=some (.u v3):=fun o=>af _ _ 5 _ 93 (0,0) (zy o)
  have f6:∀o,(gR wa o).cell? ⟨wr.heap.size,6,none⟩=some (.i v4):=fun o=>af _ _ 6 _ 93 (0,0) (zy o)
  have f7:∀o,(gR wa o).cell? ⟨wr.heap.size,7,none⟩=some (.u v5):=fun o=>af _ _ 7 _ 93 (0,0) (zy o)
  have f8:∀o,(gR wa o).cell? ⟨wr.heap.size,8,none⟩=some (.v v6):=fun o=>af _ _ 8 _ 93 (0,0) (zy o)
  have f9:∀o,(gR wa o).cell? ⟨wr.heap.size,9,none⟩=some (.v v7):=fun o=>af _ _ 9 _ 93 (0,0) (zy o)
  have f10:∀o,(gR wa o).cell? ⟨wr.heap.size,10,none⟩=some (.v v8):=fun o=>af _ _ 10 _ 93 (0,0) (zy o)
  have Wv:∀o,cE wr (gR wa o):=fun o=>hba.trans ((gR.below wa o).mono hba.size)
  have T2:=HT.out.below oL;have ai1:b<wr.heap.size:=aB T2.blk;have ft:∀o,(gR wa o).cell? ⟨b,0,none⟩=some (.s cP):=fun o=>((Wv o).cell (p:=⟨b,0,none⟩) ai1).trans T2.cells.1
  have hmr:dM wr:=E9.kept oL;have KU:=cD ((FD hmr p cP hfe.cW hrl).ext hba);have HWA:=cD vO;have HEX:=cD Wv;have HMR:=cD (fun o=>hmr.kept (Wv o));have HQ3:=cD (q3.below oL);have HF:=cD (cC hfe hfi);have za:=cD (cC S1 (cC S2 S3));have HNY:=cD (cC hno hyes);have HBW:=cD oL;clear hL hA hE hfit E9 hN hNE hr he fS hrw hfe hfi S1 S2 S3 hno hyes vO hba ga zy Wv T2 hmr q3 dB oL pT;go_wp2_with fail
  rw[←HWA.out];clear k0 k1 k2 k3 k4 k5 k6 k7 k8 k9 ZL;go_wp2_with fail
  refine lM cJ cJ ?_
  repeat (go_big_quiet_step (first|(go_at_call 180;exact KU.out _)))
  refine wpQuiet_nil ?_;intro w' hw';obtain⟨oq,Ko⟩:=hw';subst Ko;have Cr:=HEX.out oq;have HWB:=cD Cr;have aen:cE w (gR wa oq):=HBW.out.trans (Cr.mono HBW.out.size);have LV:=cD aen;have T3:=za.out.1.below Cr;have LN:=cD T3;have j0:=f0 oq;have j1:=f1 oq;have j2:=f2 oq;have j3:=f3 oq;have j4:=f4 oq;have j5:=f5 oq;have j6:=f6 oq;have j7:=f7 oq;have j8:=f8 oq;have j9:=f9 oq;have j10:=f10 oq;have adP:=HMR.out oq;have afB:=cD adP;have akf:=cD (HQ3.out.below Cr);clear f0 f1 f2 f3 f4 f5 f6 f7 f8 f9 f10 ft Cr aen T3 adP KU HWA HEX;generalize gR wa oq=wb at*;cases hu:eB p cP with
  |false=>
   have hz:kY cP Mi ⟨p,g,nd⟩=30:=by unfold kY;rw[if_pos hu]
   have HZ:Hid (kY cP Mi ⟨p,g,nd⟩≠0):=cD (by rw[hz];decide);have HZV:=cD hz;clear hu hz;go_wp2
   go_ret
   have hres:=HNY.out.1 HZ.out;rw[HZV.out] at hres;refine⟨mb,by rw[hres];rfl,?_,cQ.eT LV.out⟩;rw[hres,if_neg (show¬(30:Int)=0 by decide),if_neg (show¬(30:Int)=0 by decide)];exact(HT.out.below LV.out).wide (fun k h=>.inl h)
  |true=>
  cases g with
  |true=>
   have hz:kY cP Mi ⟨p,true,nd⟩=vR cP Mi p:=by unfold kY;rw[if_neg (by rw[hu];decide),if_pos rfl]
   have ZR:nB cP Mi ⟨p,true,nd⟩=yH cP Mi p:=by unfold nB;rw[if_neg (by rw[hu];decide),if_pos rfl]
   rw[hz,ZR] at HNY;have HG:=cD (LN.out.Bf (ay HF.out.2.len cK) afB.out HF.out.2.cW p HF.out.1.cW);clear hz ZR hu;go_wp2_with fail
   refine HG.out.mono ?_;rintro e w3 ⟨rfl,T4,K4⟩;have HX:=cD (cC T4 K4);clear T4 K4 HG;generalize vR cP Mi p=x at*;by_cases hx:x=0
   ·obtain⟨x1,x2⟩:=eq_int hx
    have BQ:=cD hx;clear hx;go_wp2
    go_roundw
    case rel=>
     have hn:=HNY.out.2 BQ.out;refine⟨i+1,by omega,by go_num,cD ⟨by rw[hn];exact HX.out.1,by rw[hn],(za.out.2.2.trans (cQ.eT HWB.out)).trans HX.out.2⟩⟩
    case measure=>simp[intOf];omega
   obtain⟨x1,x2⟩:=Mx hx;have BQ:=cD hx;clear hx;go_wp2
   go_ret
   have hres:=HNY.out.1 BQ.out;have SL:cE w w3:=LV.out.trans (HX.out.2.below LV.out.size (fun k h=>by omega));refine⟨mb,by rw[hres];rfl,?_,cQ.eT SL⟩;rw[hres,if_neg BQ.out,if_neg BQ.out];exact(HT.out.below SL).wide (fun k h=>.inl h)
  |false=>
  have hz:kY cP Mi ⟨p,false,nd⟩=Ay cP Mi p:=by unfold kY;rw[if_neg (by rw[hu];decide),if_neg cM]
  have ZR:nB cP Mi ⟨p,false,nd⟩=Gu cP Mi p nd:=by unfold nB;rw[if_neg (by rw[hu];decide),if_neg cM]
  rw[hz,ZR] at HNY;have HP:=cD (LN.out.Vw afB.out p HF.out.1.cW ⟨a,n,c,⟨v1,v2,v3,v4,v5,v6,v7,v8⟩⟩ nd akf.out HF.out.1.data);clear hz ZR hu;go_wp2_with fail
  refine HP.out.mono ?_;rintro e w3 ⟨rfl,T4,K4⟩;have HX:=cD (cC T4 K4);clear T4 K4 HP;generalize Ay cP Mi p=x at*;by_cases hx:x=0
  ·obtain⟨x1,x2⟩:=eq_int hx
   have BQ:=cD hx;clear hx;go_wp2
   go_roundw
   case rel=>
    have hn:=HNY.out.2 BQ.out;refine⟨i+1,by omega,by go_num,cD ⟨by rw[hn];exact HX.out.1.wide (fun k h=>h.elim id (fun h=>.inr (ay LV.out.size h))),by rw[hn],(za.out.2.2.trans (cQ.eT HWB.out)).trans HX.out.2⟩⟩
   case measure=>simp[intOf];omega
  obtain⟨x1,x2⟩:=Mx hx;have BQ:=cD hx;clear hx;go_wp2
  go_ret
  have hres:=HNY.out.1 BQ.out;have SL:cE w w3:=LV.out.trans (HX.out.2.below LV.out.size (fun k h=>by omega));refine⟨mb,by rw[hres];rfl,?_,cQ.eT SL⟩;rw[hres,if_neg BQ.out,if_neg BQ.out];exact(HT.out.below SL).wide (fun k h=>.inl h)
 obtain rfl:i=N:=by omega
 obtain⟨hL,hA,hE,hfit,E9,hN,hNE⟩:=zQ.out;obtain⟨S1,S2,S3⟩:=HS.out;rw[hNE,List.take_length] at S1 S2;have dB:Below w.heap.size w1 wr:=S3.below hs1 (fun k h=>by omega);have oL:cE w wr:=jT.out.trans dB;have T2:=HT.out.below oL;obtain⟨c0,c1,c2⟩:=T2.cells;obtain⟨d0,d1,d2⟩:=S1.cells;have fb:∀j,wr.frozen? ⟨b,j,none⟩=false:=frozen0 T2.blk;have HX:=cD (cC S1 (cC S2 (cC oL T2)));have jt:b≠b':=by omega
 clear hL hA hE hfit E9 hN hNE S1 S2 S3 dB oL T2;go_wp2
 go_ret
 obtain⟨S1,S2,oL,T2⟩:=HX.out;obtain⟨t1,t2⟩:=T2.swap S1 jt;refine⟨s9,by rw[S2];rfl,?_,(cQ.eT oL).trans t2⟩;rw[if_pos S2,if_pos S2];exact t1
end
end
section
open Go.RowKit Go.Lib Go.Sort
theorem IE(L:List cO):(bL (L.mergeSort fun x y=>decide (x≤y))).length=L.length↔L.Nodup:=by
 have Sy:=List.mergeSort_perm L (fun x y=>decide (x≤y));have hsort:=List.pairwise_mergeSort (le:=fun x y=>decide (x≤y)) Dq Dr L;generalize L.mergeSort (fun x y=>decide (x≤y))=S at Sy hsort;rw[←Sy.length_eq,←Sy.nodup_iff];constructor
 ·intro h
  have hk:∀j,j<S.length→keeps S.toArray j=true:=by
   unfold bL compactUpTo at h;rw[aF] at h;have h2:=(List.length_filter_eq_length_iff (l:=List.range S.length) (p:=keeps S.toArray)).1 (by rw[h,List.length_range]);exact fun j hj=>h2 j (List.mem_range.2 hj)
  rw[List.nodup_iff_pairwise_ne,aO];intro i j hi hj hij e;have h1:=hk (i+1) cK;unfold keeps at h1;have hi1:i+1<S.length:=by omega
  have h2:S[i]≤S[i+1]:=by
   have:=aO.1 hsort i (i+1) hi hi1 cK;simpa using this
  have h3:S[i+1]≤S[j]:=by
   by_cases e2:i+1=j
   ·subst e2;exact List.le_refl _
   have:=aO.1 hsort (i+1) j hi1 hj cK;simpa using this
  have h4:S[i+1]=S[i]:=List.le_antisymm (e▸h3) h2;simp[getElem!_pos,hi,hi1,h4] at h1
 intro h;rw[compact_all];intro j hj;unfold keeps;by_cases h0:j=0
 ·simp[h0]
 have hj1:j - 1<S.length:=by omega
 have hne:S[j]≠S[j - 1]:=by
  intro e;have:=(List.getElem_inj h).1 e;omega
 simp[getElem!_pos,hj,hj1,h0,hne]
theorem GZ(L:List cO):(L.map bs).map (·.data.toList)=L:=by
 rw[bN]
 conv=>rhs;rw[←List.map_id L]
 exact List.map_congr_left fun x _=>gU x
theorem below_grow{B:Nat}{a w:ah}(h:Below B a w)(hB:B≤w.heap.size)(os:Array Obj):Below B a (grow w os):=
 h.trans ⟨rfl,rfl,rfl,by simp[grow],fun k hk=>heap_grow_old w os cK⟩
def Ut(L:List cO)(w:ah)(e:Ending)(w':ah):Prop:=
 cE w w'∧((L=[]∧∃a c,e=.returned (.slice a 0 c))∨∃g cap,e=.returned (.slice (some ⟨g,0,none⟩) L.length cap)∧w.heap.size≤g∧g<w'.heap.size∧L.length≤cap∧Holds bz w' g 0 L.toArray)
theorem mW(ao:Option aW)(c:Nat)(L:List cO)(w:ah)(hbig:L.length≤1000)(hc:gZ w w.heap.size ao L):aQ prog 41 #[.slice ao L.length c] w (Ut L w):=by
 cases L with
 |nil=>
  cases ao with
  |none=>exact(slices_Clone_string_nil 0 c w).mono fun e w' ⟨he,hw⟩=>⟨hw▸aq _ _,.inl ⟨rfl,_,_,he⟩⟩
  |some a=>
  refine(slices_Clone_string_zero a c w).mono fun e w' ⟨v',he,hown,_,hb⟩=>⟨hb,.inl ⟨rfl,?_⟩⟩
  rcases hown.2 with ⟨rfl,_⟩|⟨g,cap,cur,rfl,_⟩
  ·exact⟨_,_,he⟩
  exact⟨_,_,he⟩
 |cons x L=>
 obtain⟨b,off,rfl,hb,hx⟩:=hc 0 x rfl;have h:=slices_Clone_string b off (x::L).length c ((x::L).map bs) w cM (by simp at hbig⊢;omega) (fun j hj=>by
  have hj':j<(x::L).length:=by simpa using hj
  obtain⟨b',off',e,_,h2⟩:=hc j ((x::L)[j]) (aK hj');simp at e;obtain⟨rfl,rfl⟩:=e;rw[h2,Fm (x::L) j hj])
 refine h.mono fun e w' ⟨v',he,hown,hnn,hb'⟩=>⟨hb',.inr ?_⟩
 rw[bM cM,←map_encStr,GZ] at hown;obtain⟨g,cap,rfl,h1,h2,h3,h4,h5,h6⟩:=holds_of_ownsRow hown hnn;exact⟨g,cap,he,h1,h2,h3,h6⟩
theorem Ae(g cap:Nat)(L:List cO)(w0 w:ah)(B:Nat)(hb:Below B w0 w)(hB:B≤g)(hg:g<w.heap.size)(hBw:B≤w.heap.size)(hbig:L.length≤1000)(hH:Holds bz w g 0 L.toArray):
  aQ prog 56 #[.slice (some ⟨g,0,none⟩) L.length cap] w fun e w'=>e=.returned (.tuple #[])∧Below B w0 w'∧g<w'.heap.size∧Holds bz w' g 0 (L.mergeSort fun x y=>decide (x≤y)).toArray:=by
 refine(slices_Sort_string g 0 cap L w hH hg cK).mono ?_;rintro e w' ⟨rfl,n,os,rfl⟩;have hsz:g<(aT bz (aG w n) g 0 (L.mergeSort fun x y=>decide (x≤y)).toArray).heap.size:=by simpa [aT,aY,aG] using hg
 refine⟨rfl,?_,?_,?_⟩
 ·exact below_grow (Lib.below_putRow hb hB) (by simpa [aT,aY,aG] using hBw) os
 ·simp[grow];omega
 exact holds_grow _ _ os g 0 _ hsz (holds_putRow _ _ g 0 _ _ (holds_ahead _ w n g 0 _ hH) cM)
theorem NO(a:Option aW)(cap:Nat)(w:ah):aQ prog 56 #[.slice a 0 cap] w fun e w'=>e=.returned (.tuple #[])∧w'=w:=slices_Sort_string_none a cap w
theorem yQ(g cap:Nat)(S:List cO)(w0 w:ah)(B:Nat)(hb:Below B w0 w)(hB:B≤g)(hbig:S.length≤1000)(hcap:S.length≤cap)(hH:Holds bz w g 0 S.toArray):
  aQ prog 102 #[.slice (some ⟨g,0,none⟩) S.length cap] w fun e w'=>e=.returned (.slice (some ⟨g,0,none⟩) (bL S).length cap)∧Below B w0 w':=by
 refine(slices_Compact_string g 0 cap S w hH cK hcap).mono ?_;rintro e w' ⟨rfl,q,rfl⟩;exact⟨rfl,Lib.below_putRow hb hB⟩
theorem Lp(x:cO)(hx:x.length≤1000)(w:ah)(hm:dM w):aQ prog 103 #[.s x] w fun e w'=>e=.returned (.bool (!(dG x).isSome))∧cE w w':=by
 have c1:=rz w hm x hx w (aq _ _);unfold uo at c1;clear hm;generalize (dG x).isSome=b at*;cases b
 all_goals
  go_enter func103,ntmps103
  go_wp2_with (go_at_call 104;refine c1.mono ?_;rintro e w1 ⟨rfl,B1⟩)
  go_ret
  exact⟨rfl,B1⟩
theorem Fy(ao:Option aW)(c:Nat)(L:List cO)(w:ah)(hm:dM w)(hbig:L.length≤1000)(hL:∀r∈L,r.length≤1000)(hc:gZ w w.heap.size ao L):
  aQ prog 40 #[.slice ao L.length c] w fun e w'=>e=.returned (.i (mB L))∧cE w w':=by
 have h1:=mW ao c L w hbig hc;have HC:=cD hc;have HM:=cD hm;have HLL:=cD hL;have CO:=cD hbig;clear hc hm hL;by_cases h0:L.length<1
 ·obtain rfl:L=[]:=bA cK
  have hv:mB []=1:=by decide
  rw[hv];clear hv h0 hbig;have H1:=cD h1;clear h1;go_enter func40,ntmps40
  go_wp2_with fail
  refine H1.out.mono ?_;rintro e w1 ⟨B1,⟨_,a,c1,rfl⟩|⟨g,cap,rfl,_,_,_,_⟩⟩
  all_goals
   have HB:=cD B1;clear B1;go_wp2_with (go_at_call 56;refine(NO _ _ _).mono ?_;rintro e w2 ⟨rfl,rfl⟩)
   go_ret
   exact⟨rfl,HB.out⟩
 have hne:L≠[]:=by rintro rfl;simp at h0
 have H1:=cD h1;clear h1;by_cases h4:4<L.length
 ·have hv:mB L=1:=by unfold mB;rw[if_pos (.inr (.inl h4))]
  rw[hv];clear hv;obtain⟨N,hN⟩:=cF L.length;have HN:=cD hN;have HNE:=cD hne;rw[←hN] at h0 h4 hbig⊢;rw[←hN] at H1;have d1:decide ((N:Int)<1)=false:=by simp;omega
  have d2:decide (4<(N:Int))=true:=by simp;omega
  clear hN hne;go_enter func40,ntmps40
  go_wp2_with fail
  refine H1.out.mono ?_;rintro e w1 ⟨B1,⟨hnil,_⟩|⟨g,cap,rfl,AX,hg2,hcap,hH⟩⟩
  ·exact absurd hnil HNE.out
  have hs:=Ae g cap L w w1 w.heap.size B1 AX hg2 B1.size CO.out hH;have HS:=cD hs;rw[←HN.out] at HS;rw[←HN.out];clear hs B1 hH hcap;go_wp2_with fail
  refine HS.out.mono ?_;rintro e w2 ⟨rfl,B2,_,_⟩;have HB:=cD B2;clear B2;go_wp2
  go_ret
  exact⟨rfl,HB.out⟩
 have hcl:=IE L;have FR:(L.mergeSort fun x y=>decide (x≤y)).length=L.length:=List.length_mergeSort _;obtain⟨N,hN⟩:=cF L.length;have HN:=cD hN;have HNE:=cD hne;have aiU:(bL (L.mergeSort fun x y=>decide (x≤y))).length≤L.length:=by
  rw[←FR];unfold bL compactUpTo;rw[aF];exact ay (bT _ _) cM
 obtain⟨M,hM⟩:=cF ((bL (L.mergeSort fun x y=>decide (x≤y))).length);have I3:=cD FR;rw[←hM,←hN] at hcl aiU;rw[←hN] at h0 h4 hbig⊢;rw[←hN] at H1;have LS:=cD hM;have d1:decide ((N:Int)<1)=false:=by simp;omega
 have d2:decide (4<(N:Int))=false:=by simp;omega
 clear hN hne FR hM;by_cases hnd:L.Nodup
 ·have hMN:=hcl.2 hnd
  have hv:mB L=if L.all (fun x=>(dG x).isSome) then 0 else 30:=by unfold mB;rw[if_neg (by rw[←HN.out];rintro(h|h|h);omega;omega;exact h hnd)]
  rw[hv];have aer:(!L.all (fun x=>(dG x).isSome))=L.any (fun x=>!(dG x).isSome):=by rw[List.not_all_eq_any_not]
  have akJ:=cD aer;subst hMN;have d3:((M:Int) != (M:Int))=false:=by simp
  clear hcl hnd hv aer;generalize L.all (fun x=>(dG x).isSome)=al at*;go_enter func40,ntmps40
  go_wp2_with fail
  refine H1.out.mono ?_;rintro e w1 ⟨B1,⟨hnil,_⟩|⟨g,cap,rfl,AX,hg2,hcap,hH⟩⟩
  ·exact absurd hnil HNE.out
  have hs:=Ae g cap L w w1 w.heap.size B1 AX hg2 B1.size CO.out hH;have HS:=cD hs;rw[←HN.out] at HS;rw[←HN.out] at hcap⊢;clear hs B1 hH;go_wp2_with fail
  refine HS.out.mono ?_;rintro e w2 ⟨rfl,B2,hg3,hH2⟩;have hk:=yQ g cap (L.mergeSort fun x y=>decide (x≤y)) w w2 w.heap.size B2 AX (by rw[I3.out];exact CO.out) (by rw[I3.out,←HN.out];exact hcap) hH2;rw[I3.out,←LS.out,←HN.out] at hk;have HK:=cD hk;clear hk B2 hH2;go_wp2_with fail
  refine HK.out.mono ?_;rintro e w3 ⟨rfl,B3⟩;have mQ:=cD B3;have Ig:=CG (fun x=>!(dG x).isSome) ao c L w3 CO.out ((HC.out.kept B3).mono B3.size) (fun W hW x hx=>Lp x (HLL.out x hx) W (HM.out.kept (B3.trans (hW.mono B3.size))));rw[←HN.out,←akJ.out] at Ig;have Qk:=cD Ig;clear B3 Ig;cases al
  all_goals
   go_wp2_with fail
   refine Qk.out.mono ?_;rintro e w4 ⟨rfl,B4⟩;have FN:=cD (mQ.out.trans (B4.mono mQ.out.size));clear B4;go_wp2
   go_ret
   exact⟨rfl,FN.out⟩
 have hMN:M≠N:=fun h=>hnd (hcl.1 h)
 have hv:mB L=1:=by unfold mB;rw[if_pos (.inr (.inr hnd))]
 rw[hv];have d3:((M:Int) != (N:Int))=true:=by simp;omega
 clear hcl hnd hv;go_enter func40,ntmps40
 go_wp2_with fail
 refine H1.out.mono ?_;rintro e w1 ⟨B1,⟨hnil,_⟩|⟨g,cap,rfl,AX,hg2,hcap,hH⟩⟩
 ·exact absurd hnil HNE.out
 have hs:=Ae g cap L w w1 w.heap.size B1 AX hg2 B1.size CO.out hH;have HS:=cD hs;rw[←HN.out] at HS;rw[←HN.out] at hcap⊢;clear hs B1 hH;go_wp2_with fail
 refine HS.out.mono ?_;rintro e w2 ⟨rfl,B2,hg3,hH2⟩;have hk:=yQ g cap (L.mergeSort fun x y=>decide (x≤y)) w w2 w.heap.size B2 AX (by rw[I3.out];exact CO.out) (by rw[I3.out,←HN.out];exact hcap) hH2;rw[I3.out,←LS.out,←HN.out] at hk;have HK:=cD hk;clear hk B2 hH2;go_wp2_with fail
 refine HK.out.mono ?_;rintro e w3 ⟨rfl,B3⟩;have mQ:=cD B3;clear B3;go_wp2
 go_ret
 exact⟨rfl,mQ.out⟩
end
section
open Go.RowKit
theorem RJ{w w2:ah}{cs:Array aI}{t:aU}(B2:Below (w.alloc (.cells cs t)).heap.size (w.alloc (.cells cs t)) w2)(j:Nat)(v:aI)(h:cs[j]?=some v):w2.cell? ⟨w.heap.size,j,none⟩=some v∧w2.frozen? ⟨w.heap.size,j,none⟩=false:=by
 have hb:w2.heap[w.heap.size]?=some (.cells cs t (0,0)):=(B2.block _ cM).trans (aH w _);exact⟨(af _ _ j _ t (0,0) hb).trans h,by simp[World.frozen?,hb]⟩
theorem s0{w w2:ah}{cs:Array aI}{t:aU}(B2:Below (w.alloc (.cells cs t)).drew.heap.size (w.alloc (.cells cs t)).drew w2)(j:Nat)(v:aI)(h:cs[j]?=some v):w2.cell? ⟨w.heap.size,j,none⟩=some v∧w2.frozen? ⟨w.heap.size,j,none⟩=false:=
 RJ (w:=w) ⟨B2.os,B2.tape,B2.output,B2.size,B2.block⟩ j v h
def Nv(W1 wc:ah)(s:Int)(t9:aI):Prop:=∃nb,t9=.p nb∧W1.heap.size≤nb∧cE W1 wc∧wc.cell? ⟨nb,0,none⟩=some (.i s)
theorem Ea{W1 w2:ah}{s:Int}{t:aU}(hb:cE W1 w2):Nv W1 (w2.alloc (.cells #[.i s] t)) s (.p w2.heap.size):=
 ⟨_,rfl,hb.size,hb.alloc hb.size _,af _ _ 0 _ t (0,0) (aH w2 _)⟩
theorem DZ{W1 w2:ah}{s:Int}{o:Obj}{v:aI}(hb:Below (W1.alloc o).heap.size (W1.alloc o) w2)(q0:w2.cell? ⟨W1.heap.size,0,none⟩=some v):
  Nv W1 (w2.setCell ⟨W1.heap.size,0,none⟩ (.i s)) s (.p W1.heap.size):=
 ⟨_,rfl,an _,(((aq _ W1).alloc (an _) o).trans (hb.mono cM)).setCell (p:=⟨W1.heap.size,0,none⟩) (an _) _,World.cell?_setCell_same' w2 _ _ (by rw[q0];rfl)⟩
theorem mO{B:Nat}{w w2:ah}(h:Below B w.drew w2):Below B w w2:=⟨h.os,h.tape,h.output,h.size,h.block⟩
def jJ(L:List cO):List cO→Int×Int
 |[]=>(0,60)
 |x::P=>if zL L x<0∨(x::P).any (fun y=>zL L y != zL L x)=true then (0,60) else (zL L x,0)
def uu(L:List cO)(p:cO)(Q:List cO):Int×Int:=jJ L (if Q=[] then [p] else Q)
structure T0 where
 kind:Int
 da:Option aW
 dn:Nat
 dc:Nat
 gW:Int
 seq:Bool
 mV:Bool
 pa:Option aW
 pn:Nat
 pc:Nat
def T0.cells(r:T0)(p:cO):List aI:=[.b r.kind,.s p,.slice r.da r.dn r.dc,.i r.gW,.bool r.seq,.bool r.mV,.slice r.pa r.pn r.pc]
def qD(w:ah)(B:Nat)(ao:Option aW)(Q:List cO):Prop:=
 ∀k p,Q[k]?=some p→∃b off r,ao=some ⟨b,off,none⟩∧b<B∧w.rangeAt b (off+k*7) (T0.cells r p)
theorem qD.kept{w w':ah}{B:Nat}{ao:Option aW}{Q:List cO}(h:qD w B ao Q)(hb:Below B w w'):qD w' B ao Q:=fun k p hk=>by
 obtain⟨b,off,r,h1,h2,h3⟩:=h k p hk;exact⟨b,off,r,h1,h2,dR h3 hb h2⟩
theorem qD.mono{w:ah}{B B':Nat}{ao:Option aW}{Q:List cO}(h:qD w B ao Q)(hB:B≤B'):qD w B' ao Q:=fun k p hk=>by
 obtain⟨b,off,r,h1,h2,h3⟩:=h k p hk;exact⟨b,off,r,h1,by omega,h3⟩
theorem qD.later{w w':ah}{ao:Option aW}{Q:List cO}(h:qD w w.heap.size ao Q)(hb:cE w w'):qD w' w'.heap.size ao Q:=(h.kept hb).mono hb.size
theorem IT(pl pa:Nat)(s:Int)(ao:Option aW)(c:Nat)(L:List cO)(x:cO)(w:ah)(hm:dM w)(hbig:L.length≤1000)(hx:x.length≤1000)(hL:∀r∈L,r.length≤1000)(hc:gZ w w.heap.size ao L)
  (h1:w.cell? ⟨pl,0,none⟩=some (.slice ao L.length c)) (h2:w.cell? ⟨pa,0,none⟩=some (.i s)):
  aQ prog 72 #[.s x,.p pl,.p pa] w fun e w'=>e=.returned (.bool (zL L x != s))∧cE w w':=by
 have l1:=aA w _ h1;have l2:=aA w _ h2;have f1:∀o,(gR w o).cell? ⟨pl,0,none⟩=some (.slice ao L.length c):=fun o=>((gR.below w o).cell (p:=⟨pl,0,none⟩) l1).trans h1
 have f2:∀o,(gR w o).cell? ⟨pa,0,none⟩=some (.i s):=fun o=>((gR.below w o).cell (p:=⟨pa,0,none⟩) l2).trans h2
 have c1:yX w 70 #[.slice ao L.length c,.s x] (.i (zL L x)):=fun W hW=>(xq ao c L x W (hm.kept hW) hbig hx hL ((hc.kept hW).mono hW.size)).mono fun e w' ⟨he,hb⟩=>⟨he,hW.trans (hb.mono hW.size)⟩
 have C1:=cD (OT c1);clear hm hL hc h1 h2 c1;obtain⟨N,hN⟩:=cF L.length;rw[←hN] at hbig f1 C1;clear hN;generalize zL L x=r at*;go_enter func72,ntmps72
 go_wp2_with fail
 refine lM cJ cJ ?_
 repeat (go_big_quiet_step (first|(go_at_call 70;exact C1.out _)))
 refine wpQuiet_nil ?_;intro w' hw';obtain⟨oq,Ko⟩:=hw';subst Ko;go_wp2
 go_ret
 exact⟨rfl,gR.below w oq⟩
def Ux(r:Int×Int)(w:ah)(e:Ending)(w':ah):Prop:=e=.returned (.tuple #[.i r.1,.i r.2])∧cE w w'
theorem Xb(k0 k2 k3 k4 k5:aI)(ao po:Option aW)(c pc:Nat)(L:List cO)(p:cO)(w:ah)(hm:dM w)(hbig:L.length≤1000)(hp:p.length≤1000)(hL:∀r∈L,r.length≤1000)(hc:gZ w w.heap.size ao L):
  aQ prog 28 #[.slice ao L.length c,.agg #[k0,.s p,k2,k3,k4,k5,.slice po 0 pc]] w (Ux (uu L p []) w):=by
 obtain⟨N,hN⟩:=cF L.length;have HN:=cD hN;have HC:=cD hc;have HM:=cD hm;have HL:=cD hL;rw[←hN] at hbig⊢;clear hN hc hm hL;obtain⟨W1,Cz⟩:=cF (((w.alloc (.cells #[.slice ao N c] 28)).alloc (.cells #[k0,.s p,k2,k3,k4,k5,.slice po 0 pc] 35)).alloc (.cells #[.s p] 9));have MZ:cE w W1:=by rw[Cz];exact cT (cT (cT (aq _ w) _) _) _
 have hl:W1.cell? ⟨w.heap.size,0,none⟩=some (.slice ao N c):=by
  rw[Cz];rw[((aq (w.heap.size+1) _).alloc cM _ |>.alloc cM _:Below (w.heap.size+1) (w.alloc (.cells #[.slice ao N c] 28)) _).cell (p:=⟨w.heap.size,0,none⟩) cM];exact af _ _ 0 _ 28 (0,0) (aH w _)
 have hP:W1.cell? ⟨w.heap.size+1+1,0,none⟩=some (.s p):=by
  rw[Cz];have:=aH ((w.alloc (.cells #[.slice ao N c] 28)).alloc (.cells #[k0,.s p,k2,k3,k4,k5,.slice po 0 pc] 35)) (.cells #[.s p] 9);simp only[aJ] at this;exact af _ _ 0 _ 9 (0,0) this
 have hs1:W1.heap.size=w.heap.size+3:=by rw[Cz];simp
 go_enter func28,ntmps28
 go_wp2_with fail
 rw[←Cz];clear Cz;have jT:=cD MZ;have SC:w.heap.size<W1.heap.size:=by omega
 have hlt:w.heap.size+1+1<W1.heap.size:=by omega
 have HPS:Hid (gZ W1 W1.heap.size (some ⟨w.heap.size+1+1,0,none⟩) [p]):=cD (fun k q hk=>by
  cases k with
  |zero=>simp at hk;subst hk;exact⟨_,_,rfl,hlt,by simpa using hP⟩
  |succ k=>simp at hk)
 have YK:Hid ([p].length≤1000∧∀y∈[p],y.length≤1000):=cD ⟨by simp,by simpa using hp⟩;have HHD:Hid (∃x0 P0,[p]=x0::P0∧x0=p):=cD ⟨p,[],rfl,rfl⟩;have LW:Hid (uu L p []=jJ L [p]):=cD rfl;have hx:p.length≤1000:=hp;clear MZ hs1 hp;have UK:=fun(W:ah) (hW:cE w W)=>xq ao c L p W (HM.out.kept hW) (by rw[←HN.out];exact hbig) hx HL.out ((HC.out.kept hW).mono hW.size)
 rw[←HN.out] at UK;have HOF:=cD UK;have HX:=cD hx;have CO:=cD hbig;clear UK;generalize hs0:zL L p=s at*;have HS0:=cD hs0;clear hs0;go_cut [9] (fun t9 wc=>Nv W1 wc s t9)
 case first=>
  go_region_with (go_at_call 70;refine(HOF.out _ (by repeat (first|exact jT.out|refine Below.drew ?_|refine cT ?_ _))).mono ?_;rintro e w2 ⟨rfl,B2⟩;(first|(obtain⟨q0,q1⟩:=s0 B2 0 _ rfl)|skip))
  all_goals
   go_wp2
   go_meet
   case rel=>first|exact Ea (mO B2)|exact DZ (mO B2) q0
 obtain⟨nb,rfl,hnb,hbc,hat⟩:=hcut;have hl2:wc.cell? ⟨w.heap.size,0,none⟩=some (.slice ao N c):=(hbc.cell (p:=⟨w.heap.size,0,none⟩) SC).trans hl;have uA:=cD (jT.out.trans (hbc.mono jT.out.size));have hps:=HPS.out.kept hbc;have Ig:=yP (fun y=>zL L y != s) w.heap.size nb (some ⟨w.heap.size+1+1,0,none⟩) 1 [p] wc YK.out.1 (hps.mono hbc.size) (fun W hW y hy=>IT w.heap.size nb s ao c L y W (HM.out.kept (uA.out.trans (hW.mono uA.out.size))) (by rw[←HN.out];exact CO.out) (YK.out.2 y hy) HL.out ((HC.out.kept (uA.out.trans (hW.mono uA.out.size))).mono (ay uA.out.size hW.size))
  (by rw[←HN.out];exact(hW.cell (p:=⟨w.heap.size,0,none⟩) (aE SC hbc.size)).trans hl2) ((hW.cell (p:=⟨nb,0,none⟩) (aA _ _ hat)).trans hat))
 rw[show([p]:List cO).length=1 from rfl] at Ig;have HV:Hid (jJ L [p]=if s<0∨([p]:List cO).any (fun y=>zL L y != s)=true then (0,60) else (s,0)):=cD (by
  obtain⟨x0,P0,hP0,hx0⟩:=HHD.out;rw[hP0];simp only[jJ];rw[hx0,HS0.out])
 have Qk:=cD Ig;clear Ig hps hbc hl2;by_cases hs:s<0
 ·have d0:decide (s<0)=true:=by simpa using hs
  have HW:Hid (jJ L [p]=(0,60)):=cD (by rw[HV.out,if_pos (.inl hs)]);clear HV Qk;go_wp2
  go_ret2
  exact⟨by rw[LW.out,HW.out];rfl,uA.out⟩
 have d0:decide (s<0)=false:=by simpa using hs
 cases ha:([p]:List cO).any (fun y=>zL L y != s) with
 |true=>
  rw[ha] at Qk;have HW:Hid (jJ L [p]=(0,60)):=cD (by rw[HV.out,if_pos (.inr ha)]);clear HV ha;go_wp2_with fail
  refine Qk.out.mono ?_;rintro e w3 ⟨rfl,B3⟩;have mQ:=cD (uA.out.trans (B3.mono uA.out.size));clear B3;go_wp2
  go_ret2
  exact⟨by rw[LW.out,HW.out];rfl,mQ.out⟩
 |false=>
 rw[ha] at Qk;have HW:Hid (jJ L [p]=(s,0)):=cD (by rw[HV.out,if_neg (by rw[ha];rintro(h|h);exact hs h;cases h)]);clear HV ha;go_wp2_with fail
 refine Qk.out.mono ?_;rintro e w3 ⟨rfl,B3⟩;have ai6:w3.cell? ⟨nb,0,none⟩=some (.i s):=(B3.cell (p:=⟨nb,0,none⟩) (aA _ _ hat)).trans hat;have mQ:=cD (uA.out.trans (B3.mono uA.out.size));clear B3 hat;go_wp2
 go_ret2
 exact⟨by rw[LW.out,HW.out];rfl,mQ.out⟩
theorem TW(k0 k2 k3 k4 k5:aI)(ao po:Option aW)(c pc:Nat)(L Q:List cO)(p:cO)(w:ah)(hm:dM w)(hbig:L.length≤1000)(hL:∀r∈L,r.length≤1000)(hc:gZ w w.heap.size ao L)
  (hQ0:Q≠[]) (hQn:Q.length≤1000) (hQl:∀r∈Q,r.length≤1000) (hq:qD w w.heap.size po Q):
  aQ prog 28 #[.slice ao L.length c,.agg #[k0,.s p,k2,k3,k4,k5,.slice po Q.length pc]] w (Ux (uu L p Q) w):=by
 obtain⟨i0,hi,hz0,hz1,hz2⟩:=info_parts E0;obtain⟨x0,Q0,hQx⟩:∃x0 Q0,Q=x0::Q0:=by
  cases Q with
  |nil=>exact absurd rfl hQ0
  |cons x Q=>exact⟨x,Q,rfl⟩
 have hx:x0.length≤1000:=hQl x0 (by rw[hQx];simp);have LW:Hid (uu L p Q=jJ L Q):=cD (by unfold uu;rw[if_neg hQ0]);have HHD:Hid (∃x1 P0,Q=x1::P0∧x1=x0):=cD ⟨x0,Q0,hQx,rfl⟩;have YK:Hid (Q.length≤1000∧∀y∈Q,y.length≤1000):=cD ⟨hQn,hQl⟩;have aez:0<Q.length:=List.length_pos_iff.2 hQ0;clear hQx hQ0 hQl;obtain⟨N,hN⟩:=cF L.length;have HN:=cD hN;obtain⟨M,hM⟩:=cF Q.length;have HMQ:=cD hM;have HC:=cD hc;have HM:=cD hm;have HL:=cD hL;have HQ:=cD hq;rw[←hN] at hbig⊢;rw[←hM] at hQn aez⊢;clear hN hc hm hL hM hq;obtain⟨W1,Cz⟩:=cF (((w.alloc (.cells #[.slice ao N c] 28)).alloc (.cells #[k0,.s p,k2,k3,k4,k5,.slice po M pc] 35)).alloc (.cells #[.s p] 9));have MZ:cE w W1:=by rw[Cz];exact cT (cT (cT (aq _ w) _) _) _
 have hl:W1.cell? ⟨w.heap.size,0,none⟩=some (.slice ao N c):=by
  rw[Cz];rw[((aq (w.heap.size+1) _).alloc cM _ |>.alloc cM _:Below (w.heap.size+1) (w.alloc (.cells #[.slice ao N c] 28)) _).cell (p:=⟨w.heap.size,0,none⟩) cM];exact af _ _ 0 _ 28 (0,0) (aH w _)
 have hs1:W1.heap.size=w.heap.size+3:=by rw[Cz];simp
 have SB:w.heap.size<W1.heap.size:=by omega
 go_enter func28,ntmps28
 go_wp2_with fail
 rw[←Cz];clear Cz;have HB0:=cD MZ;have HLB:=cD hl;clear MZ hs1 hl;go_loopw [6,20] (fun v i wr=>∃k:Nat,k≤M∧i=.i k∧Hid (wr.ownsRow W1.heap.size 9 1 v k ((Q.take k).map sv))∧Hid (cE W1 wr)) (fun _ i _=>M - (intOf i).toNat)
 case atStart=>exact⟨0,by omega,rfl,cD (bU _ _ _ _),cD (aq _ _)⟩
 obtain⟨k,hk,rfl,HR,HB⟩:=hrel;by_cases hlt:k<M
 ·obtain⟨q,hqk⟩:∃q,Q[k]?=some q:=⟨_,aK (by rw[←HMQ.out];exact hlt)⟩
  obtain⟨b,off,⟨kd,da,dn,dc,vr,sq,ep,pa,pn,Vx⟩,rfl,hb,fS⟩:=HQ.out k q hqk;have hrw:=dR fS (HB0.out.trans (HB.out.mono HB0.out.size)) hb;have h0:wr.cell? ⟨b,off+k*7,none⟩=some (.b kd):=hrw 0 _ rfl;have h1:wr.cell? ⟨b,off+k*7+1,none⟩=some (.s q):=hrw 1 _ rfl;have h2:wr.cell? ⟨b,off+k*7+2,none⟩=some (.slice da dn dc):=hrw 2 _ rfl;have h3:wr.cell? ⟨b,off+k*7+3,none⟩=some (.i vr):=hrw 3 _ rfl;have h4:wr.cell? ⟨b,off+k*7+4,none⟩=some (.bool sq):=hrw 4 _ rfl;have h5:wr.cell? ⟨b,off+k*7+5,none⟩=some (.bool ep):=hrw 5 _ rfl;have h6:wr.cell? ⟨b,off+k*7+6,none⟩=some (.slice pa pn Vx):=hrw 6 _ rfl;have HT:Hid (Q.take (k+1)=Q.take k++[q]):=cD (by rw[bY,hqk];rfl);clear fS hrw hqk;have hcn:=cell_one_new (wr.alloc (.cells #[.b kd,.s q,.slice da dn dc,.i vr,.bool sq,.bool ep,.slice pa pn Vx] 35)) (sv q) 9;rw[show(wr.alloc (.cells #[.b kd,.s q,.slice da dn dc,.i vr,.bool sq,.bool ep,.slice pa pn Vx] 35)).heap.size=wr.heap.size+1 from by simp] at hcn;have UY:=cD hcn;clear hcn;go_wp2_with (at_builtin;refine wpList_append_own _ rfl (.tmp 24) (.tmp 27) 28 rfl W1.heap.size 9 i0 (.string ByteArray.empty) 1 16 underlying28 hi hz0 hz1 hz2 rfl cL _ _ _ rfl ((HR.out.alloc _).alloc _) ⟨wr.heap.size+1,0,none⟩ 1 1 [sv q] rfl rfl UY.out (Y8 [q]) (by unfold aM;omega) cK (by have:=HB.out.size;simp;omega) ?_;intro v3 w3 hown hgrow _)
  have HR3:Hid (w3.ownsRow W1.heap.size 9 1 v3 (k+1) ((Q.take (k+1)).map sv)):=cD (by rw[HT.out,aL];exact hown);have mQ:=cD (((HB.out.alloc HB.out.size _).alloc (by have:=HB.out.size;simp;omega) _).grown hgrow (by have:=HB.out.size;simp;omega) (fun j hj=>(HR.out.lt j hj).1));clear hown hgrow;go_roundw
  case rel=>exact⟨k+1,by omega,by go_num,HR3,mQ⟩
  case measure=>simp[intOf];omega
 obtain rfl:k=M:=by omega
 obtain⟨a,cap,rfl,FR⟩:=Vz (L:=Q) (by have:=HR.out;rw[HMQ.out,List.take_length,←HMQ.out] at this;exact this);obtain⟨g,rfl,aoR,hP⟩:∃g,a=some ⟨g,0,none⟩∧g<wr.heap.size∧wr.cell? ⟨g,0,none⟩=some (.s x0):=by
  obtain⟨x1,P0,hP0,rfl⟩:=HHD.out;exact FR 0 x1 (by rw[hP0];rfl)
 have HPS:Hid (gZ wr wr.heap.size (some ⟨g,0,none⟩) Q):=cD (fun j y hy=>by
  obtain⟨g',e,h1,h2⟩:=FR j y hy;cases e;exact⟨_,0,rfl,h1,by rw[Nat.zero_add];exact h2⟩)
 have jT:=cD (HB0.out.trans (HB.out.mono HB0.out.size));have hl:wr.cell? ⟨w.heap.size,0,none⟩=some (.slice ao N c):=(HB.out.cell (p:=⟨w.heap.size,0,none⟩) SB).trans HLB.out;have SC:w.heap.size<wr.heap.size:=aE SB HB.out.size;rw[show Q.length=k from HMQ.out.symm];clear FR HR;go_wp2_with fail
 have UK:=fun(W:ah) (hW:cE w W)=>xq ao c L x0 W (HM.out.kept hW) (by rw[←HN.out];exact hbig) hx HL.out ((HC.out.kept hW).mono hW.size)
 rw[←HN.out] at UK;have HOF:=cD UK;have HX:=cD hx;have CO:=cD hbig;clear UK;generalize hs0:zL L x0=s at*;have HS0:=cD hs0;clear hs0;go_cut [9] (fun t9 wc=>Nv wr wc s t9)
 case first=>
  go_region_with (go_at_call 70;refine(HOF.out _ (by repeat (first|exact jT.out|refine Below.drew ?_|refine cT ?_ _))).mono ?_;rintro e w2 ⟨rfl,B2⟩;(first|(obtain⟨q0,q1⟩:=s0 B2 0 _ rfl)|skip))
  all_goals
   go_wp2
   go_meet
   case rel=>first|exact Ea (mO B2)|exact DZ (mO B2) q0
 obtain⟨nb,rfl,hnb,hbc,hat⟩:=hcut;have hl2:wc.cell? ⟨w.heap.size,0,none⟩=some (.slice ao N c):=(hbc.cell (p:=⟨w.heap.size,0,none⟩) SC).trans hl;have uA:=cD (jT.out.trans (hbc.mono jT.out.size));have hps:=HPS.out.kept hbc;have Ig:=yP (fun y=>zL L y != s) w.heap.size nb (some ⟨g,0,none⟩) cap Q wc YK.out.1 (hps.mono hbc.size) (fun W hW y hy=>IT w.heap.size nb s ao c L y W (HM.out.kept (uA.out.trans (hW.mono uA.out.size))) (by rw[←HN.out];exact CO.out) (YK.out.2 y hy) HL.out ((HC.out.kept (uA.out.trans (hW.mono uA.out.size))).mono (ay uA.out.size hW.size))
  (by rw[←HN.out];exact(hW.cell (p:=⟨w.heap.size,0,none⟩) (aE SC hbc.size)).trans hl2) ((hW.cell (p:=⟨nb,0,none⟩) (aA _ _ hat)).trans hat))
 rw[show(Q:List cO).length=k from HMQ.out.symm] at Ig;have HV:Hid (jJ L Q=if s<0∨(Q:List cO).any (fun y=>zL L y != s)=true then (0,60) else (s,0)):=cD (by
  obtain⟨x0,P0,hP0,hx0⟩:=HHD.out;rw[hP0];simp only[jJ];rw[hx0,HS0.out])
 have Qk:=cD Ig;clear Ig hps hbc hl2;by_cases hs:s<0
 ·have d0:decide (s<0)=true:=by simpa using hs
  have HW:Hid (jJ L Q=(0,60)):=cD (by rw[HV.out,if_pos (.inl hs)]);clear HV Qk;go_wp2
  go_ret2
  exact⟨by rw[LW.out,HW.out];rfl,uA.out⟩
 have d0:decide (s<0)=false:=by simpa using hs
 cases ha:(Q:List cO).any (fun y=>zL L y != s) with
 |true=>
  rw[ha] at Qk;have HW:Hid (jJ L Q=(0,60)):=cD (by rw[HV.out,if_pos (.inr ha)]);clear HV ha;go_wp2_with fail
  refine Qk.out.mono ?_;rintro e w3 ⟨rfl,B3⟩;have mQ:=cD (uA.out.trans (B3.mono uA.out.size));clear B3;go_wp2
  go_ret2
  exact⟨by rw[LW.out,HW.out];rfl,mQ.out⟩
 |false=>
 rw[ha] at Qk;have HW:Hid (jJ L Q=(s,0)):=cD (by rw[HV.out,if_neg (by rw[ha];rintro(h|h);exact hs h;cases h)]);clear HV ha;go_wp2_with fail
 refine Qk.out.mono ?_;rintro e w3 ⟨rfl,B3⟩;have ai6:w3.cell? ⟨nb,0,none⟩=some (.i s):=(B3.cell (p:=⟨nb,0,none⟩) (aA _ _ hat)).trans hat;have mQ:=cD (uA.out.trans (B3.mono uA.out.size));clear B3 hat;go_wp2
 go_ret2
 exact⟨by rw[LW.out,HW.out];rfl,mQ.out⟩
end
section
open Go.RowKit Go.Shelf Go.MapKept Go.ChangeMaps Go.Sort
open Go.Maps (Keyed)
section
variable{κ ν:Type}[DecidableEq κ]{P:Program}{k:TypeId}{fk:κ→Value}{fv:ν→Value}{w:World}{b:Nat}{m:List (κ×ν)}
theorem dH{ops:Array Oper}{rest:List Oper}{o:Oper}{a:Act}{Q:Exit→Act→ah→Prop}(h:dS P k fk fv w b m)(K:Keyed P k)(hinj:∀x y,fk x=fk y→x=y){t e:aU}(ht:P.underlying t=some (.map k e))
  (hg:o.guard=none) (x y z:Operand) (hop:o.op=.insert t x y z) (hx:a.eval x=.map (some b)) (c:κ) (v:ν) (hy:a.eval y=fk c) (hz:a.eval z=fv v) {l:Lit} (ha:keyOf P k (fk c)=some l)
  (hK:∀w',dS P k fk fv w' b (iL c v m)→cQ (·=b) w w'→wpList P ops Q rest (a.put o.dst bQ) w'):wpList P ops Q (o::rest) a w:=by
 obtain⟨ob,ho⟩:=dS.update h K hinj ht v ha;obtain⟨h1,h2⟩:=ho w rfl;refine wpList_plain hg fun K' gv=>?_
 have he:(execOp a.eval o).run P w=.ok .skip (aX w b ob):=by
  unfold execOp;simp[hop,hx,hy,hz,h1,Result.andThen]
 unfold Oper.wp;rw[he,Oper.upon_skip];exact gv _ _ (hK _ h2 (jE h.lt ob))
end
def oK(n:Nat):aI:=.b n
def Th(f:Nat):aI:=.func (.func f) #[] #[]
def OW:List (Nat×Nat):=[(1,255),(2,256),(3,257),(4,258),(5,259),(6,260)]
def Table(w:ah)(b:Nat):Prop:=dS prog 5 oK Th w b OW
theorem eN:∀x y:Nat,oK x=oK y→x=y:=fun x y h=>by
 unfold oK at h
 injection h with _ h
 omega
theorem iZ:Keyed prog 5:=Maps.int_keyed underlying5
theorem WW(w:ah):aQ prog 185 #[] w fun e w'=>∃b,e=.returned (.map (some b))∧Table w' b∧w.heap.size≤b∧cE w w':=by
 have UM:=@run_makeMap prog;have Ui:dS prog 5 oK Th (w.alloc (.map #[] 0)) w.heap.size ([]:List (Nat×Nat)):=dS.made _ _ _ _ w;go_enter func185,ntmps185
 go_wp2_with (first
  |(refine dH Ui iZ eN underlying247 rfl (.tmp 1) (.const (.b 1)) (.func 255) rfl rfl 1 255 rfl rfl (l:=.b 1) cN ?_;intro v1 Qf UW;clear Ui)
  |(refine dH Qf iZ eN underlying247 rfl (.tmp 1) (.const (.b 2)) (.func 256) rfl rfl 2 256 rfl rfl (l:=.b 2) cN ?_;intro v2 LS UU;clear Qf)
  |(refine dH LS iZ eN underlying247 rfl (.tmp 1) (.const (.b 3)) (.func 257) rfl rfl 3 257 rfl rfl (l:=.b 3) cN ?_;intro v3 LQ uz;clear LS)
  |(refine dH LQ iZ eN underlying247 rfl (.tmp 1) (.const (.b 4)) (.func 258) rfl rfl 4 258 rfl rfl (l:=.b 4) cN ?_;intro v4 HM4 HK4;clear LQ)
  |(refine dH HM4 iZ eN underlying247 rfl (.tmp 1) (.const (.b 5)) (.func 259) rfl rfl 5 259 rfl rfl (l:=.b 5) cN ?_;intro v5 Qe HK5;clear HM4)
  |(refine dH Qe iZ eN underlying247 rfl (.tmp 1) (.const (.b 6)) (.func 260) rfl rfl 6 260 rfl rfl (l:=.b 6) cN ?_;intro v6 Xp HK6;clear Qe)
  |fail)
 go_ret
 refine⟨_,rfl,Xp,an _,?_⟩;have hk:cQ (·=w.heap.size) (w.alloc (.map #[] 0)) v6:=UW.trans (UU.trans (uz.trans (HK4.trans (HK5.trans HK6))));exact(cT (aq _ w) _).trans (hk.below cM (fun k e=>by have e:k=w.heap.size:=e;omega))
end
section
open Go.RowKit Go.ChangeShapes Go.WideShapes Go.Deep
theorem cellsByte:prog.cellsOf 5=1:=by kernel_rfl
theorem qt:prog.cellsOf 32=1:=by kernel_rfl
theorem wj:prog.cellsOf 29=1:=by kernel_rfl
theorem wh:prog.cellsOf 36=1:=by kernel_rfl
theorem BH:prog.cellsOf 3=1:=by kernel_rfl
theorem IK:prog.cellsOf 4=1:=by kernel_rfl
theorem xS:prog.cellsOf 31=2:=by kernel_rfl
theorem yR:prog.cellsOf 93=11:=by kernel_rfl
theorem PO:prog.cellsOf 38=1:=by kernel_rfl
def BU:Nat→Prop:=fun _=>True
section
variable{H:Type}{enc:TypeId×Value→H}{w:World}{base:Nat}{spare:Nat→Bool}{held:Bool}
theorem Ge{fuel:Nat}{t e:aU}(ht:prog.underlying t=some (.slice e)){len cap:Nat}{x:DataW H×List bS}(h:au enc prog w base spare held fuel t [.slice none len cap]=some x):len=0∧cap=0:=by
 rcases DataW.trod_slice ht h with ⟨h1,_⟩|⟨a,len',cap',_,_,_,_,h1,_⟩
 ·simp at h1;exact h1
 simp at h1
def YB(x:Int):Prop:=0≤x∧x<4294967296
def YA(x:Int):Prop:=0≤x∧x<18446744073709551616
def I64(x:Int):Prop:=-9223372036854775808≤x∧x<9223372036854775808
theorem tQ{n:Int}(h:(Lit.int .u32 n).wf=true):YB n:=by
 simp[Lit.wf,bJ,bK,bB,bG] at h;exact⟨by omega,by omega⟩
theorem tP{n:Int}(h:(Lit.int .u64 n).wf=true):YA n:=by
 simp[Lit.wf,bJ,bK,bB,bG] at h;exact⟨by omega,by omega⟩
theorem xG{n:Int}(h:(Lit.int .i64 n).wf=true):I64 n:=by
 simp[Lit.wf,bJ,bK,bB,bG] at h;exact⟨by omega,by omega⟩
structure eU.Wf(u:eU):Prop where
 gW:YB u.gW
 BV:YB u.BV
 next:YB u.next
 os:I64 u.os
 on:YB u.on
 made:YA u.made
 CI:YA u.CI
 Ch:YA u.Ch
theorem BI{fuel:Nat}{cs:List aI}{y:DataW H×List bS}(h:au enc prog w base spare held fuel 32 cs=some y):
  ∃ao c D,cs=[.slice ao D.length c]∧D.length≤c∧c≤aM∧eP w BU w.heap.size ao D∧(ao=none→D=[]∧c=0):=by
 have h0:=h;obtain⟨ao,len,cap,rfl,hl,hm,hi⟩:=NW (P:=prog) underlying32 cellsByte cK h;obtain⟨D,rfl,hat⟩:=oC (fun i (x:UInt8)=>∃b off,ao=some ⟨b,off,none⟩∧b<w.heap.size∧w.cell? ⟨b,off+i,none⟩=some (.b x.toNat)) len (fun i hil=>by
  obtain⟨b,off,cs',n',y',h1,h2,h3,h4,h5⟩:=hi i hil;obtain⟨v,e0,_,wf⟩:=aC underlying5 h5;subst e0;obtain⟨w0,w1⟩:=wf_u8 wf;have:=h4 0 _ rfl;rw[Nat.mul_one,Nat.add_zero] at this;refine⟨UInt8.ofNat v.toNat,b,off,h1,h2,?_⟩;rw[this];have:((UInt8.ofNat v.toNat).toNat:Int)=v:=by
   rw[UInt8.toNat_ofNat'];omega
  rw[this])
 refine⟨ao,cap,D,rfl,hl,hm,fun j c hj=>?_,fun e=>?_⟩
 ·obtain⟨b,off,h1,h2,h3⟩:=hat j c hj
  exact⟨b,off,h1,trivial,h2,h3⟩
 subst e;obtain⟨h1,h2⟩:=Ge underlying32 h0;exact⟨bA h1,h2⟩
theorem C4{fuel:Nat}{cs:List aI}{y:DataW H×List bS}(h:au enc prog w base spare held fuel 31 cs=some y):
  ∃a c:Int,cs=[.i a,.u c]∧I64 a∧YB c:=by
 obtain⟨xs,n,_,_,hl,hx,hf⟩:=aZ underlying31 h;rw[xS] at hl
 match cs,hl with
 |[c0,c1],_=>
  match xs,hx with
  |[y0,y1],_=>
   have g0:au enc prog w base spare held n 3 (([c0,c1].drop 0).take (prog.cellsOf 3))=some y0:=hf 0 _ rfl;have g1:au enc prog w base spare held n 29 (([c0,c1].drop 1).take (prog.cellsOf 29))=some y1:=hf 1 _ rfl;rw[BH] at g0;rw[wj] at g1;obtain⟨a,e0,_,wa⟩:=aC underlying3 g0;obtain⟨c,e1,_,wc⟩:=aC underlying29 g1;simp at e0 e1;subst e0 e1;exact⟨_,_,rfl,xG wa,tQ wc⟩
theorem Oo{fuel:Nat}{cs:List aI}{y:DataW H×List bS}(h:au enc prog w base spare held fuel 44 cs=some y):
  ∃(r:Raw) (d:Nd),cs=r.cells∧Reads w BU r d∧d.data.length≤aM∧d.num.Wf:=by
 obtain⟨xs,n,_,_,hl,hx,hf⟩:=aZ underlying44 h;rw[Ls] at hl
 match cs,hl with
 |[c0,c1,c2,c3,c4,c5,c6,c7,c8],_=>
  match xs,hx with
  |[y0,y1,y2,y3,y4,y5,y6,y7],_=>
   have g0:au enc prog w base spare held n 32 (([c0,c1,c2,c3,c4,c5,c6,c7,c8].drop 0).take (prog.cellsOf 32))=some y0:=hf 0 _ rfl;have g1:au enc prog w base spare held n 29 (([c0,c1,c2,c3,c4,c5,c6,c7,c8].drop 1).take (prog.cellsOf 29))=some y1:=hf 1 _ rfl;have g2:au enc prog w base spare held n 29 (([c0,c1,c2,c3,c4,c5,c6,c7,c8].drop 2).take (prog.cellsOf 29))=some y2:=hf 2 _ rfl;have g3:au enc prog w base spare held n 29 (([c0,c1,c2,c3,c4,c5,c6,c7,c8].drop 3).take (prog.cellsOf 29))=some y3:=hf 3 _ rfl;have g4:au enc prog w base spare held n 31 (([c0,c1,c2,c3,c4,c5,c6,c7,c8].drop 4).take (prog.cellsOf 31))=some y4:=hf 4 _ rfl;have g5:au enc prog w base spare held n 36 (([c0,c1,c2,c3,c4,c5,c6,c7,c8].drop 6).take (prog.cellsOf 36))=some y5:=hf 5 _ rfl;have g6:au enc prog w base spare held n 36 (([c0,c1,c2,c3,c4,c5,c6,c7,c8].drop 7).take (prog.cellsOf 36))=some y6:=hf 6 _ rfl;have g7:au enc prog w base spare held n 36 (([c0,c1,c2,c3,c4,c5,c6,c7,c8].drop 8).take (prog.cellsOf 36))=some y7:=hf 7 _ rfl;rw[qt] at g0;rw[wj] at g1 g2 g3;rw[xS] at g4;rw[wh] at g5 g6 g7;obtain⟨ao,c,D,e0,b1,b2,b3,b4⟩:=BI g0;obtain⟨n1,e1,_,w1⟩:=aC underlying29 g1;obtain⟨n2,e2,_,w2⟩:=aC underlying29 g2;obtain⟨n3,e3,_,w3⟩:=aC underlying29 g3;obtain⟨n4,n5,e4,w4,w5⟩:=C4 g4;obtain⟨n6,e6,_,w6⟩:=aC underlying36 g5;obtain⟨n7,e7,_,w7⟩:=aC underlying36 g6;obtain⟨n8,e8,_,w8⟩:=aC underlying36 g7;simp at e0 e1 e2 e3 e4 e6 e7 e8;obtain⟨rfl,rfl⟩:=e4;subst e0 e1 e2 e3 e6 e7 e8;exact⟨⟨ao,D.length,c,⟨n1,n2,n3,n4,n5,n6,n7,n8⟩⟩,⟨D,⟨n1,n2,n3,n4,n5,n6,n7,n8⟩⟩,rfl,⟨rfl,rfl,b3,b4⟩,ay b1 b2,⟨tQ w1,tQ w2,tQ w3,w4,w5,tP w6,tP w7,tP w8⟩⟩
theorem Iy{fuel:Nat}{cs:List aI}{y:DataW H×List bS}(h:au enc prog w base spare held fuel 93 cs=some y):
  ∃(r:dr) (e:gm),cs=r.cells∧kU w BU r e∧e.cW.length≤aM∧e.node.data.length≤aM∧e.node.num.Wf:=by
 obtain⟨xs,n,_,_,hl,hx,hf⟩:=aZ underlying93 h;rw[yR] at hl
 match cs,hl with
 |c0::c1::rest,hl=>
  match xs,hx with
  |[y0,y1,y2],_=>
   have g0:au enc prog w base spare held n 9 (((c0::c1::rest).drop 0).take (prog.cellsOf 9))=some y0:=hf 0 _ rfl;have g1:au enc prog w base spare held n 4 (((c0::c1::rest).drop 1).take (prog.cellsOf 4))=some y1:=hf 1 _ rfl;have g2:au enc prog w base spare held n 44 (((c0::c1::rest).drop 2).take (prog.cellsOf 44))=some y2:=hf 2 _ rfl;rw[wm] at g0;rw[IK] at g1;rw[Ls] at g2;obtain⟨s,e0,_,hs⟩:=DataW.trod_string underlying9 g0;obtain⟨p,rfl⟩:=zZ s;obtain⟨k,e1,_⟩:=DataW.trod_bool underlying4 g1;obtain⟨r,d,e2,h1,h2,h3⟩:=Oo g2;have hl9:rest.length=9:=by simpa using hl
   simp only[List.drop_succ_cons,List.drop_zero] at e2;rw[bM cK] at e2;simp at e0 e1;subst e0 e1 e2;rw[fL] at hs;exact⟨⟨p,k,r⟩,⟨p,k,d⟩,rfl,⟨rfl,rfl,h1⟩,hs,h2,h3⟩
structure InE(e:gm):Prop where
 cW:e.cW.length≤aM
 data:e.node.data.length≤aM
 num:e.node.num.Wf
theorem RZ{α β:Type}(R:Nat→α→β→Prop)(n:Nat)(h:∀i,i<n→∃a b,R i a b):∃(A:List α) (B:List β),A.length=n∧B.length=n∧∀(i:Nat) a b,A[i]?=some a→B[i]?=some b→R i a b:=by
 obtain⟨L,hl,hat⟩:=oC (fun i (x:α×β)=>R i x.1 x.2) n (fun i hi=>by obtain⟨a,b,h⟩:=h i hi;exact⟨(a,b),h⟩);refine⟨L.map (·.1),L.map (·.2),by simp[hl],by simp[hl],fun i a b ha hb=>?_⟩;simp only[List.getElem?_map,Option.map_eq_some_iff] at ha hb;obtain⟨x,hx,rfl⟩:=ha;obtain⟨y,hy,rfl⟩:=hb;rw[hx] at hy;cases hy;exact hat i x hx
end
end
section
open Go.RowKit
section
variable{w:World}(hm:dM w)(ao:Option Addr)(c:Nat)(L:List cO)(hbig:L.length≤1000)(hL:∀r∈L,r.length≤1000)(hc:gZ w w.heap.size ao L)
include hm hbig hL hc
theorem IQ(k0 k2 k3 k4 k5:aI)(po:Option aW)(pc:Nat)(p:cO)(Q:List cO)(hp:p.length≤1000)(hQn:Q.length≤1000)(hQl:∀r∈Q,r.length≤1000)(hq:qD w w.heap.size po Q):rX w 28 #[.slice ao L.length c,.agg #[k0,.s p,k2,k3,k4,k5,.slice po Q.length pc]] (.tuple #[.i (uu L p Q).1,.i (uu L p Q).2]):=
 fun W hW=>by
  by_cases h0:Q=[]
  ·subst h0
   exact Xb k0 k2 k3 k4 k5 ao po c pc L p W (hm.kept hW) hbig hp hL ((hc.kept hW).mono hW.size)
  ·exact TW k0 k2 k3 k4 k5 ao po c pc L Q p W (hm.kept hW) hbig hL ((hc.kept hW).mono hW.size) h0 hQn hQl ((hq.kept hW).mono hW.size)
end
end
section
open Go.RowKit Go.Shelf Go.MapKept Go.ChangeMaps Go.Sort
open Go.Maps (Keyed)
def Zm:List (Nat×Nat):=[(2,169),(3,170),(1,171),(4,172),(5,173),(6,174),(7,175)]
def LH(w:ah)(b:Nat):Prop:=dS prog 5 oK Th w b Zm
theorem NR(w:ah):aQ prog 67 #[] w fun e w'=>∃b,e=.returned (.map (some b))∧LH w' b∧w.heap.size≤b∧cE w w':=by
 have UM:=@run_makeMap prog;have Ui:dS prog 5 oK Th (w.alloc (.map #[] 0)) w.heap.size ([]:List (Nat×Nat)):=dS.made _ _ _ _ w;go_enter func67,ntmps67
 go_wp2_with (first
  |(refine dH Ui iZ eN underlying148 rfl (.tmp 1) (.const (.b 2)) (.func 169) rfl rfl 2 169 rfl rfl (l:=.b 2) cN ?_;intro v1 Qf UW;clear Ui)
  |(refine dH Qf iZ eN underlying148 rfl (.tmp 1) (.const (.b 3)) (.func 170) rfl rfl 3 170 rfl rfl (l:=.b 3) cN ?_;intro v2 LS UU;clear Qf)
  |(refine dH LS iZ eN underlying148 rfl (.tmp 1) (.const (.b 1)) (.func 171) rfl rfl 1 171 rfl rfl (l:=.b 1) cN ?_;intro v3 LQ uz;clear LS)
  |(refine dH LQ iZ eN underlying148 rfl (.tmp 1) (.const (.b 4)) (.func 172) rfl rfl 4 172 rfl rfl (l:=.b 4) cN ?_;intro v4 HM4 HK4;clear LQ)
  |(refine dH HM4 iZ eN underlying148 rfl (.tmp 1) (.const (.b 5)) (.func 173) rfl rfl 5 173 rfl rfl (l:=.b 5) cN ?_;intro v5 Qe HK5;clear HM4)
  |(refine dH Qe iZ eN underlying148 rfl (.tmp 1) (.const (.b 6)) (.func 174) rfl rfl 6 174 rfl rfl (l:=.b 6) cN ?_;intro v6 Xp HK6;clear Qe)
  |(refine dH Xp iZ eN underlying148 rfl (.tmp 1) (.const (.b 7)) (.func 175) rfl rfl 7 175 rfl rfl (l:=.b 7) cN ?_;intro v7 HM7 Xr;clear Xp)
  |fail)
 go_ret
 refine⟨_,rfl,HM7,an _,?_⟩;have hk:cQ (·=w.heap.size) (w.alloc (.map #[] 0)) v7:=UW.trans (UU.trans (uz.trans (HK4.trans (HK5.trans (HK6.trans Xr)))));exact(cT (aq _ w) _).trans (hk.below cM (fun k e=>by have e:k=w.heap.size:=e;omega))
end
