/- Part 21. -/
import Derived.Test.YtdpaejbaoefdjaaGreatDoorQ20
import Derived.Test.YtdpaejbaoefdjaaGreatDoorQ8
open Go renaming callsIn_wide → aa,World → an,Value → aO
open Go.Fence renaming wide → af
open Go.RowKit.Below renaming refl → ag
open Array renaming replicate_zero → ah,replicate_succ → aj
open List renaming append_toArray → aq,size_toArray → au,push_toArray → ay,length_cons → aB,cons_append → aC,nil_append → aD,length_nil → aE,length_map → aF,getElem?_eq_getElem → aG,length_filter_le → aL,mem_of_getElem? → aM,map_eq_nil_iff → aN,take_add_one → aQ
open Nat renaming le_trans → aA,reduceSub → aI,reduceAdd → aJ
open Go.Boxed renaming new → aH
open Go.World renaming cell?_of_block → aK,size_alloc → aP
namespace Go.Proofs.YtdpaejbaoefdjaaGreatDoor
open Go.Proofs.Tryz
set_option maxRecDepth 100000
set_option maxHeartbeats 64000000
set_option linter.unusedVariables false
set_option linter.unusedSimpArgs false
section
open Go.RowKit Go.Shelf Go.MapKept Go.ChangeMaps Go.Maps Go.Sort
attribute [local go_sem] Oper.semAt_some
theorem Eo(a b c:cP)(h1:decide (a≤b)=true)(h2:decide (b≤c)=true):decide (a≤c)=true:=by
 simp only[decide_eq_true_eq] at*;exact List.le_trans h1 h2
theorem Ep(a b:cP):(decide (a≤b)||decide (b≤a))=true:=by
 simp only[Bool.or_eq_true,decide_eq_true_eq];exact List.le_total a b
def qI(L:List cP):List cP:=L.mergeSort fun x y=>decide (x≤y)
theorem gH(L:List cP):(qI L).Perm L:=List.mergeSort_perm L _
theorem qi(L:List cP):(qI L).Pairwise (fun x y=>x≤y):=by
 have:=List.pairwise_mergeSort (le:=fun x y:cP=>decide (x≤y)) Eo Ep L;exact this.imp fun h=>by simpa using h
theorem tC{a b:List cP}(h1:a.Pairwise (fun x y=>x≤y))(h2:b.Pairwise (fun x y=>x≤y))(h:a.Perm b):a=b:=
 List.Perm.eq_of_pairwise (fun _ _ _ _ h1 h2=>List.le_antisymm h1 h2) h1 h2 h
theorem G3{a b:List cP}(h:a.Perm b):qI a=qI b:=
 tC (qi a) (qi b) (((gH a).trans h).trans (gH b).symm)
def gU(M:List (cP×Nd)):List cP:=qI (M.map (·.1))
theorem pK(M:List (cP×Nd)):(gU M).length=M.length:=by
 have:=(gH (M.map (·.1))).length_eq;simpa [gU] using this
theorem qA{α:Type}(f:α→Bool){L:List α}{k:Nat}{e:α}(hk:L[k]?=some e)(h:f e=true):(L.take (k+1)).filter f=(L.take k).filter f++[e]:=by
 rw[aQ,hk];simp[h]
theorem zx{α:Type}(f:α→Bool){L:List α}{k:Nat}{e:α}(hk:L[k]?=some e)(h:f e=false):(L.take (k+1)).filter f=(L.take k).filter f:=by
 rw[aQ,hk];simp[h]
theorem Ca{α:Type}(f:α→Bool)(L:List α)(k:Nat):(L.take k).filter f <+: L.filter f:=by
 conv=>rhs;rw[←List.take_append_drop k L,List.filter_append]
 exact List.prefix_append _ _
def rV(w:an)(base:Nat)(v:aO)(L:List cP):Prop:=w.ownsRow base 9 1 v L.length (L.map sv)
theorem rV.at{w:an}{base:Nat}{v:aO}{L:List cP}(h:rV w base v L):(v=.n∧L=[])∨∃g cap,v=.slice (some ⟨g,0,none⟩) L.length cap∧base≤g∧g<w.heap.size∧L.length≤cap∧(∃o,w.heap[g]?=some o∧o.isCells=true)∧∀i p,L[i]?=some p→w.cell? ⟨g,i,none⟩=some (.s p):=by
 rcases h.2 with ⟨h1,h0⟩|⟨g,cap,cur,h1,zn,hg,hnc,hcm,hcs,QE⟩
 ·exact .inl ⟨h1,List.eq_nil_of_length_eq_zero h0⟩
 subst h1;refine .inr ⟨g,cap,rfl,zn,(Array.getElem?_eq_some_iff.1 hg).1,hnc,⟨_,hg,rfl⟩,fun i p hp=>?_⟩;have:=h.cells (g:=g) rfl i (sv p) (by simp[hp]);rw[Addr.add_lit] at this;rw[Nat.zero_add] at this;exact this
abbrev Key:={q:cP // q.length≤1000}
theorem NP(L:List cP)(h:∀q∈L,q.length≤1000):∃K:List Key,K.map (·.1)=L:=by
 induction L with
 |nil=>exact⟨[],rfl⟩
 |cons x L ih=>
  obtain⟨K,hK⟩:=ih (fun q hq=>h q (List.mem_cons_of_mem _ hq));exact⟨⟨x,h x (List.mem_cons_self ..)⟩::K,by rw[List.map_cons,hK]⟩
theorem BI{K:List Key}{M:List (cP×Nd)}(hK:K.map (·.1)=gU M):K.length=M.length:=by
 have:=congrArg List.length hK;simpa [pK] using this
theorem keys_filter(f:cP→Bool)(K:List Key):(K.filter fun q=>f q.1).map (·.1)=(K.map (·.1)).filter f:=by
 rw[List.filter_map];rfl
theorem zb{w:an}{mb:Nat}{m:List (cP×Raw)}{M:List (cP×Nd)}{lo:Nat→Prop}(hm:dL prog 9 sv Raw.val w mb m)(hl:iR w lo m M)(hM:M.length≤1000):
  CallsIn af 5 prog 116 #[.func (.func 207) #[] #[.p w.heap.size]] (w.alloc (.cells #[.map (some mb)] 120)) fun e w'=>∃v:aO,e=.returned v∧
   rV w' (w.heap.size+1) v (gU M)∧cF w w':=by
 obtain⟨D0,hD,hp⟩:=Xb hm (by rw[hl.len];exact hM);have hsz:Go.Maps.size D0≤m.length:=hD.size_le;have hlm:=hl.len;refine(Tryz.nw mb m.length D0 Vu w hD (by unfold maxLen;omega) cL).mono ?_;rintro e w' ⟨v,ss,rfl,hss,hown,_,hb⟩;have hs:gU M=ss.mergeSort (fun x y=>decide (x≤y)):=by
  unfold gU;rw[←hl.keys];exact G3 (hp.symm.trans hss.symm)
 refine⟨v,rfl,?_,?_⟩
 ·unfold rV
  rw[hs,List.length_mergeSort];have:((w.alloc (.cells #[.map (some mb)] 120)).heap.size)=w.heap.size+1:=by simp
  rw[this] at hown;exact hown
 exact(cR (ag _ w) _).trans (hb.mono cN)
theorem WQ(n l tB wB n₀ OB b mb:Nat)(lo:Nat→Prop)(root:cP)(at_:Int)(M:List (cP×Nd))(hM:M.length≤1000)(K:List Key)(hK:K.map (·.1)=gU M)(f:Key→Bool)(J Jx:List Key→an→Prop)
  (hY:∀pre x W,J pre W→pre.length<1000→YieldAt af (n - 1) prog l #[sv x.1] W fun e W'=>
   (e=.returned (.T)∧J (pre++[x]) W'∧ji n₀ OB W W')∨(e=.returned (.F)∧Jx (pre++[x]) W'))
  (W:an) (hJ:AbidesFrom W.heap.size J) (hn:n₀≤W.heap.size) (htB:tB<n₀) (htO:tB≠OB) (hwB:wB<n₀) (hwO:wB≠OB) (hb:b<n₀) (hbO:b≠OB) (hOB:OB<n₀)
  (ht:W.cell? ⟨tB,0,none⟩=some (.p b)) (hw:W.cell? ⟨wB,0,none⟩=some (.func (.func 204) #[] #[]))
  (T:dJ W lo b mb root at_ M) (hrO:rowOf W OB=none)
  (hW:∀W',ji n₀ OB W W'→∀q∈K,Calls prog 204 #[.s q.1] W' fun en w'=>en=.returned (.bool (f q))∧cF W' w')
  (h0:J [] W):
  CallsIn af n prog 115 #[.func (.yield l) #[] #[],.p tB,.p wB] W fun e W'=>(∃v,e=.returned v)∧
   ((∃ys,ys=K.filter f∧J ys W')∨(∃pre,pre <+: K.filter f∧Jx pre W')):=by
 obtain⟨c0,c1,c2⟩:=T.cells;obtain⟨m,hm,hl⟩:=T.map;have HKS:=cE (zb hm hl hM);obtain⟨N,hN⟩:=cG K.length;have hNM:N≤1000:=by rw[hN,BI hK];exact hM
 have OM:=cE hK;have HN:=cE hN;have HR:=cE hrO;have HW:=cE hW;clear hN T hm hl hM c0 c1 hrO hW hK;refine callsIn_of_wp func115 rfl trivial ?_ rfl;simp only[ntmps115,au,aB,aE,aJ,aI,aj,ah,ay,aq,aD,aC];gi_wp2_with fail
 refine⟨trivial,(fun h=>(by cases h)),?_⟩;refine(aa.2 (aa.1 (Tryz.tO (some mb) W))).mono ?_;rintro e w' ⟨rfl,rfl⟩;gi_wp2_with fail
 refine⟨trivial,(fun h=>(by cases h)),?_⟩;refine(aa.2 (aa.1 HKS.out)).mono ?_;rintro e W1 ⟨vk,rfl,hrow,B1⟩;have jk:=cE B1;have hks:=hrow.at;clear B1;have hR1:rowOf W1 OB=none:=(lW (jk.out.block OB cL)).trans HR.out;have GG:=cE hR1;have abA:=jk.out.size;have hJ1:J [] W1:=hJ _ _ _ none h0 ⟨jk.out.os,jk.out.tape,jk.out.output,jk.out.size,fun k hk _=>jk.out.block k hk⟩ (fun _ e=>by cases e);have acg:=cE (fu (n:=n₀) (OB:=OB) jk.out hn cL);clear hR1 h0 ht c2 HKS HR hrow;obtain⟨ao,c,hvk,hcl⟩:∃ao c,vk=.slice ao N c∧∀i p,K[i]?=some p→∃g,ao=some ⟨g,0,none⟩∧g≠OB∧(∃o,W1.heap[g]?=some o∧o.isCells=true)∧W1.cell? ⟨g,i,none⟩=some (.s p.1):=by
  rw[←OM.out] at hks;rw[aF,aN] at hks;rcases hks with ⟨h1,h2⟩|⟨g,cap,h1,zn,Uj,hnc,ho,hat⟩
  ·refine⟨none,0,by rw[h1,HN.out,h2];rfl,fun i p hp=>by rw[h2] at hp;simp at hp⟩
  exact⟨some ⟨g,0,none⟩,cap,by rw[h1,HN.out],fun i p hp=>⟨g,rfl,by omega,ho,hat i p.1 (by simp[hp])⟩⟩
 subst hvk;have pZ:=cE hcl;clear hcl hks;gi_wp2
 gi_loopw [15] (fun p wr=>∃i:Nat,i≤N∧p=.i i∧Hid (ji n₀ OB W1 wr)∧J ((K.take i).filter f) wr)
  (fun p _=>N - (intOf p).toNat)
 case atStart=>
  exact⟨0,by omega,rfl,cE (qw _ _ _),by simpa using hJ1⟩
 obtain⟨i,hi,rfl,HB,CL⟩:=hrel;have hcw:wr.cell? ⟨wB,0,none⟩=some (.func (.func 204) #[] #[]):=(HB.out.cell (p:=⟨wB,0,none⟩) hwB hwO).trans ((jk.out.cell (p:=⟨wB,0,none⟩) (by show wB<W.heap.size;omega)).trans hw);have hsz:n₀≤wr.heap.size:=aA (aA hn abA) HB.out.size;by_cases hlt:i<N
 ·obtain⟨x,hx⟩:∃x,K[i]?=some x:=⟨_,aG (by rw[←HN.out];exact hlt)⟩
  obtain⟨g,rfl,hgO,⟨o,uC,hoc⟩,QJ⟩:=pZ.out i x hx;have ZU:wr.cell? ⟨g,i,none⟩=some (.s x.1):=(aK (w:=W1) (a:=⟨g,i,none⟩) ((HB.out.cells g o uC hoc hgO (by rw[GG.out];simp)).trans uC.symm)).trans QJ;have hxm:x∈K:=aM hx;have HK:=cE (HW.out wr (fO acg.out HB.out) x hxm);have HX:=cE hx;have HJ:=cE hJ;have HJs:=cE CL;have HY:=cE hY;clear hx hxm uC QJ hJ CL hY;cases hl:f x with
  |false=>
   rw[hl] at HK;have HL:=cE hl;clear hl;gi_wp2_with fail
   refine⟨trivial,(fun h=>(by cases h)),?_⟩;refine(aa.2 HK.out).mono ?_;rintro e w' ⟨rfl,B2⟩;have X1:=cE B2;clear B2;gi_wp2
   refine⟨(fun _ h=>(by cases h)),?_⟩;gi_wp2
   go_roundw
   case rel=>
    refine⟨i+1,by omega,by go_num,cE (fO HB.out (fu X1.out hsz cL)),?_⟩;rw[zx f HX.out HL.out];exact HJ.out _ _ _ none HJs.out ⟨X1.out.os,X1.out.tape,X1.out.output,X1.out.size,fun k hk _=>X1.out.block k hk⟩ (fun _ e=>by cases e)
   case measure=>simp[intOf];omega
  |true=>
  rw[hl] at HK;have HL:=cE hl;clear hl;have hlf:((K.take i).filter f).length<1000:=by
   have h1:=aL f (K.take i);have h2:(K.take i).length≤i:=by simp;omega
   omega
  gi_wp2_with fail
  refine⟨trivial,(fun h=>(by cases h)),?_⟩;refine(aa.2 HK.out).mono ?_;rintro e w' ⟨rfl,B2⟩;have X1:=cE B2;clear B2;have hJ2:J ((K.take i).filter f) w':=HJ.out _ _ _ none HJs.out ⟨X1.out.os,X1.out.tape,X1.out.output,X1.out.size,fun k hk _=>X1.out.block k hk⟩ (fun _ e=>by cases e);obtain⟨fn,tmps,assign,body,hy,hR⟩:=HY.out _ x _ hJ2 hlf;have HR:=cE hR;clear hJ2 hR;unfold sv at hy;gi_wp2_with fail
  refine⟨(fun h=>(by cases h)),?_⟩;refine HR.out.mono ?_;rintro e W3 (⟨rfl,QW,Da⟩|⟨rfl,Us⟩)
  ·have HJ3:=cE QW
   have uU:=cE (fO (fO HB.out (fu X1.out hsz cL)) Da);clear QW Da;gi_wp2
   go_roundw
   case rel=>exact⟨i+1,by omega,by go_num,uU,by rw[qA f HX.out HL.out];exact HJ3.out⟩
   case measure=>simp[intOf];omega
  gi_wp2
  refine bodyPost_ret (results_none rfl _ _ _) rfl ?_;refine⟨⟨_,rfl⟩,.inr ⟨_,?_,Us⟩⟩;rw[←qA f HX.out HL.out];exact Ca f K (i+1)
 obtain rfl:i=N:=by omega
 gi_wp2
 go_end0
 refine⟨⟨_,rfl⟩,.inl ⟨_,rfl,?_⟩⟩;have h:=CL;rw[HN.out,List.take_length] at h;exact h
theorem WR(n l tB wB n₀ OB b mb:Nat)(lo:Nat→Prop)(root:cP)(at_:Int)(M:List (cP×Nd))(hM:M.length≤1000)(K:List Key)(hK:K.map (·.1)=gU M)(f:Key→Bool)(pB uB:Nat)(J Jx:List Key→an→Prop)
  (hY:∀pre x W,J pre W→pre.length<1000→YieldAt af (n - 1) prog l #[sv x.1] W fun e W'=>
   (e=.returned (.T)∧J (pre++[x]) W'∧ji n₀ OB W W')∨(e=.returned (.F)∧Jx (pre++[x]) W'))
  (W:an) (hJ:AbidesFrom W.heap.size J) (hn:n₀≤W.heap.size) (htB:tB<n₀) (htO:tB≠OB) (hwB:wB<n₀) (hwO:wB≠OB) (hb:b<n₀) (hbO:b≠OB) (hOB:OB<n₀)
  (ht:W.cell? ⟨tB,0,none⟩=some (.p b)) (hw:W.cell? ⟨wB,0,none⟩=some (.func (.func 53) #[] #[.p pB,.p uB]))
  (T:dJ W lo b mb root at_ M) (hrO:rowOf W OB=none)
  (hW:∀W',ji n₀ OB W W'→∀q∈K,Calls prog 53 #[.s q.1,.p pB,.p uB] W' fun en w'=>en=.returned (.bool (f q))∧cF W' w')
  (h0:J [] W):
  CallsIn af n prog 115 #[.func (.yield l) #[] #[],.p tB,.p wB] W fun e W'=>(∃v,e=.returned v)∧
   ((∃ys,ys=K.filter f∧J ys W')∨(∃pre,pre <+: K.filter f∧Jx pre W')):=by
 obtain⟨c0,c1,c2⟩:=T.cells;obtain⟨m,hm,hl⟩:=T.map;have HKS:=cE (zb hm hl hM);obtain⟨N,hN⟩:=cG K.length;have hNM:N≤1000:=by rw[hN,BI hK];exact hM
 have OM:=cE hK;have HN:=cE hN;have HR:=cE hrO;have HW:=cE hW;clear hN T hm hl hM c0 c1 hrO hW hK;refine callsIn_of_wp func115 rfl trivial ?_ rfl;simp only[ntmps115,au,aB,aE,aJ,aI,aj,ah,ay,aq,aD,aC];gi_wp2_with fail
 refine⟨trivial,(fun h=>(by cases h)),?_⟩;refine(aa.2 (aa.1 (Tryz.tO (some mb) W))).mono ?_;rintro e w' ⟨rfl,rfl⟩;gi_wp2_with fail
 refine⟨trivial,(fun h=>(by cases h)),?_⟩;refine(aa.2 (aa.1 HKS.out)).mono ?_;rintro e W1 ⟨vk,rfl,hrow,B1⟩;have jk:=cE B1;have hks:=hrow.at;clear B1;have hR1:rowOf W1 OB=none:=(lW (jk.out.block OB cL)).trans HR.out;have GG:=cE hR1;have abA:=jk.out.size;have hJ1:J [] W1:=hJ _ _ _ none h0 ⟨jk.out.os,jk.out.tape,jk.out.output,jk.out.size,fun k hk _=>jk.out.block k hk⟩ (fun _ e=>by cases e);have acg:=cE (fu (n:=n₀) (OB:=OB) jk.out hn cL);clear hR1 h0 ht c2 HKS HR hrow;obtain⟨ao,c,hvk,hcl⟩:∃ao c,vk=.slice ao N c∧∀i p,K[i]?=some p→∃g,ao=some ⟨g,0,none⟩∧g≠OB∧(∃o,W1.heap[g]?=some o∧o.isCells=true)∧W1.cell? ⟨g,i,none⟩=some (.s p.1):=by
  rw[←OM.out] at hks;rw[aF,aN] at hks;rcases hks with ⟨h1,h2⟩|⟨g,cap,h1,zn,Uj,hnc,ho,hat⟩
  ·refine⟨none,0,by rw[h1,HN.out,h2];rfl,fun i p hp=>by rw[h2] at hp;simp at hp⟩
  exact⟨some ⟨g,0,none⟩,cap,by rw[h1,HN.out],fun i p hp=>⟨g,rfl,by omega,ho,hat i p.1 (by simp[hp])⟩⟩
 subst hvk;have pZ:=cE hcl;clear hcl hks;gi_wp2
 gi_loopw [15] (fun p wr=>∃i:Nat,i≤N∧p=.i i∧Hid (ji n₀ OB W1 wr)∧J ((K.take i).filter f) wr)
  (fun p _=>N - (intOf p).toNat)
 case atStart=>
  exact⟨0,by omega,rfl,cE (qw _ _ _),by simpa using hJ1⟩
 obtain⟨i,hi,rfl,HB,CL⟩:=hrel;have hcw:wr.cell? ⟨wB,0,none⟩=some (.func (.func 53) #[] #[.p pB,.p uB]):=(HB.out.cell (p:=⟨wB,0,none⟩) hwB hwO).trans ((jk.out.cell (p:=⟨wB,0,none⟩) (by show wB<W.heap.size;omega)).trans hw);have hsz:n₀≤wr.heap.size:=aA (aA hn abA) HB.out.size;by_cases hlt:i<N
 ·obtain⟨x,hx⟩:∃x,K[i]?=some x:=⟨_,aG (by rw[←HN.out];exact hlt)⟩
  obtain⟨g,rfl,hgO,⟨o,uC,hoc⟩,QJ⟩:=pZ.out i x hx;have ZU:wr.cell? ⟨g,i,none⟩=some (.s x.1):=(aK (w:=W1) (a:=⟨g,i,none⟩) ((HB.out.cells g o uC hoc hgO (by rw[GG.out];simp)).trans uC.symm)).trans QJ;have hxm:x∈K:=aM hx;have HK:=cE (HW.out wr (fO acg.out HB.out) x hxm);have HX:=cE hx;have HJ:=cE hJ;have HJs:=cE CL;have HY:=cE hY;clear hx hxm uC QJ hJ CL hY;cases hl:f x with
  |false=>
   rw[hl] at HK;have HL:=cE hl;clear hl;gi_wp2_with fail
   refine⟨trivial,(fun h=>(by cases h)),?_⟩;refine(aa.2 HK.out).mono ?_;rintro e w' ⟨rfl,B2⟩;have X1:=cE B2;clear B2;gi_wp2
   refine⟨(fun _ h=>(by cases h)),?_⟩;gi_wp2
   go_roundw
   case rel=>
    refine⟨i+1,by omega,by go_num,cE (fO HB.out (fu X1.out hsz cL)),?_⟩;rw[zx f HX.out HL.out];exact HJ.out _ _ _ none HJs.out ⟨X1.out.os,X1.out.tape,X1.out.output,X1.out.size,fun k hk _=>X1.out.block k hk⟩ (fun _ e=>by cases e)
   case measure=>simp[intOf];omega
  |true=>
  rw[hl] at HK;have HL:=cE hl;clear hl;have hlf:((K.take i).filter f).length<1000:=by
   have h1:=aL f (K.take i);have h2:(K.take i).length≤i:=by simp;omega
   omega
  gi_wp2_with fail
  refine⟨trivial,(fun h=>(by cases h)),?_⟩;refine(aa.2 HK.out).mono ?_;rintro e w' ⟨rfl,B2⟩;have X1:=cE B2;clear B2;have hJ2:J ((K.take i).filter f) w':=HJ.out _ _ _ none HJs.out ⟨X1.out.os,X1.out.tape,X1.out.output,X1.out.size,fun k hk _=>X1.out.block k hk⟩ (fun _ e=>by cases e);obtain⟨fn,tmps,assign,body,hy,hR⟩:=HY.out _ x _ hJ2 hlf;have HR:=cE hR;clear hJ2 hR;unfold sv at hy;gi_wp2_with fail
  refine⟨(fun h=>(by cases h)),?_⟩;refine HR.out.mono ?_;rintro e W3 (⟨rfl,QW,Da⟩|⟨rfl,Us⟩)
  ·have HJ3:=cE QW
   have uU:=cE (fO (fO HB.out (fu X1.out hsz cL)) Da);clear QW Da;gi_wp2
   go_roundw
   case rel=>exact⟨i+1,by omega,by go_num,uU,by rw[qA f HX.out HL.out];exact HJ3.out⟩
   case measure=>simp[intOf];omega
  gi_wp2
  refine bodyPost_ret (results_none rfl _ _ _) rfl ?_;refine⟨⟨_,rfl⟩,.inr ⟨_,?_,Us⟩⟩;rw[←qA f HX.out HL.out];exact Ca f K (i+1)
 obtain rfl:i=N:=by omega
 gi_wp2
 go_end0
 refine⟨⟨_,rfl⟩,.inl ⟨_,rfl,?_⟩⟩;have h:=CL;rw[HN.out,List.take_length] at h;exact h
attribute [local go_sem] Oper.semAt_some
theorem qE(w:an)(v:aO)(t:TypeId):∀j u,[v][j]?=some u→(w.alloc (.cells #[v] t)).cell? ((⟨w.heap.size,0,none⟩:Addr).add j)=some u:=by
 intro j u hu;have ak3:(⟨w.heap.size,0,none⟩:Addr).add j=⟨w.heap.size,j,none⟩:=by unfold Addr.add;split<;>simp_all
 rw[ak3,cell_of_row _ _ j #[v] t (0,0) (heap_alloc_new w _)];simpa using hu
theorem vL{w w':an}{base base':Nat}{e:TypeId}{size:Nat}{v:aO}{n:Nat}{xs:List aO}(h:w.ownsRow base e size v n xs)(hb:base'≤base)(hk:∀g cs fr,v.ownBlock=some g→base≤g→w.heap[g]?=some (.cells cs e fr)→w'.heap[g]?=w.heap[g]?):w'.ownsRow base' e size v n xs:=by
 refine⟨h.1,?_⟩;rcases h.2 with h0|⟨g,cap,cur,rfl,zn,hg,r⟩
 ·exact .inl h0
 exact .inr ⟨g,cap,cur,rfl,by omega,(hk g _ _ rfl zn hg).trans hg,r⟩
theorem rV.mono{w:an}{base base':Nat}{v:aO}{L:List cP}(h:rV w base v L)(hb:base'≤base):rV w base' v L:=
 vL h hb fun _ _ _ _ _ _=>rfl
theorem rK{M:List (cP×Nd)}(h:∀x∈M,x.1.length≤1000):∀q∈gU M,q.length≤1000:=fun q hq=>by
 obtain⟨x,hx,rfl⟩:=List.mem_map.1 ((gH _).mem_iff.1 hq);exact h x hx
theorem OX(w:an)(a1 a2:aO)(t1 t2:TypeId)(W:an)(h:W=(w.alloc (.cells #[a1] t1)).alloc (.cells #[a2] t2)):
  cF w W∧W.heap.size=w.heap.size+2∧Boxed W w.heap.size t1 a1∧Boxed W (w.heap.size+1) t2 a2:=by
 subst h;have b1:=aH w t1 a1;have b2:=aH (w.alloc (.cells #[a1] t1)) t2 a2;simp only[aP] at b2;exact⟨cR (cR (ag _ w) _) _,by simp,b1.alloc _,b2⟩
theorem Gx(tB wB:Nat)(ys:List Key)(hlen:ys.length≤1000)(w:an)
  (hseq:∀W,W=w.alloc (.cells #[.n] 28)→SeqStopsK af 1 prog 115 #[.p tB,.p wB] (fun x:Key=>#[sv x.1]) (ji (w.heap.size+1) w.heap.size) (fun zs=>zs=ys) (fun pre=>pre <+: ys) 1000 W):
  Calls prog 269 #[.n,.func (.func 115) #[] #[.p tB,.p wB]] w fun e W'=>∃v,e=.returned v∧rV W' w.heap.size v (ys.map (·.1))∧cF w W':=by
 obtain⟨i0,hi,hz0,hz1,hz2⟩:=info_parts F1;refine(aa (n:=2)).1 ?_;refine callsIn_of_wp_marks func269 rfl trivial ?_ rfl;simp only[ntmps269,au,aB,aE,aJ,aI,aj,ah,ay,aq,aD,aC];gi_wp2
 have bO:=aH w 28 (.n);refine wpIn_rangeFunc_ownG (α:=Key) rfl cL (gf:=115) (lb:=#[.p tB,.p wB]) rfl trivial (enters_of func115 cK rfl)
  (hseq _ rfl) fO (NR cN cN) (ag _ _) (fun _=>rfl)
  (fun pre W=>(∃v,Boxed W w.heap.size 28 v∧W.ownsRow (w.heap.size+1) 9 1 v pre.length (pre.map fun q=>sv q.1)∧True)∧ji (w.heap.size+1) w.heap.size (w.alloc (.cells #[.n] 28)) W)
  (fun _ _ _=>False)
  (OwnFrom.and (Own.from (holdsRow_own (w.heap.size+1) w.heap.size 28 9 1 (fun pre:List Key=>pre.length) (fun pre=>pre.map fun q=>sv q.1) (fun _ _=>True)) _) (tH cN cL cN))
  (fun _ _ _ _ _ hs _ _=>hs)
  ⟨⟨_,bO,World.ownsRow_nil _ _ _ _,trivial⟩,qw _ _ _⟩
  (fun x=>{tmps:=#[.n,.func (.func 115) #[] #[.p tB,.p wB],.p w.heap.size,undef,.n,sv x.1,.func (.func 115) #[] #[.p tB,.p wB],sv x.1,undef,undef,undef,undef,undef],defers:=[]}) ?assign ?body ?done ?stop
 case assign=>
  intro l x W K hK;unfold sv at*;gi_wp2
  exact hK
 case body=>
  rintro l pre x W ⟨⟨v,hv,hrow,_⟩,hB⟩ hlt;have hc:=hv.cell;have hsz:=hB.size;simp only[aP] at hsz;unfold sv;gi_wp2_with (gi_at_builtin;refine sS _ rfl _ _ 28 rfl (w.heap.size+1) 9 i0 (.z) 1 16 underlying28 hi hz0 hz1 hz2 rfl cM _ _ _ rfl (hrow.alloc _) ⟨W.heap.size,0,none⟩ 1 1 [.s x.1] rfl rfl (qE W _ _) (by intro u hu;simp at hu;subst hu;rfl) (by unfold maxLen;omega) cL (by simp;omega) ?_;intro v' w1 hown' hgrow zZ;obtain⟨g',cap',rfl⟩:=ownsRow_succ hown';obtain⟨sZ,qx,hr2,hk2,dz⟩:=pW (n:=w.heap.size+1) hv cM hrow hsz (Nat.le_refl _) hown' hgrow zZ;have hc1:=sZ.cell;have tQ:=sZ.frozen)
  exact⟨hk2.from _,dz,⟨_,qx,by rw[List.length_append,List.map_append];exact hr2,trivial⟩,fO hB dz⟩
 case done=>
  rintro D ys W hD rfl ⟨⟨v,hv,hrow,_⟩,hB⟩ hK;have hc:=hv.cell;gi_wp2
  refine⟨by simp,.inl ⟨_,_,rfl,run_takeDeferred hK,?_⟩⟩;refine⟨_,results_tmp rfl _ _ _,v,rfl,?_,?_⟩
  ·refine rV.mono (base:=w.heap.size+1) ?_ cL
   have h:=ownsRow_putObj hrow (.deferred none) hK rfl;unfold rV;rw[aF,List.map_map];exact h
  have h1:cF w W:=(cR (ag _ w) _).trans (kG hB cL cL);refine h1.trans ⟨rfl,rfl,rfl,by simp,fun k hk=>World.putObj_heap_other (by simp at hD;omega)⟩
 rintro D c pre W _ _ h _;exact h.elim
theorem Mz(tB wB:Nat)(w:an)(ys:List cP)(h:Calls prog 269 #[.n,.func (.func 115) #[] #[.p tB,.p wB]] w fun e W'=>∃v,e=.returned v∧rV W' w.heap.size v ys∧cF w W'):
  Calls prog 203 #[.func (.func 115) #[] #[.p tB,.p wB]] w fun e W'=>∃v,e=.returned v∧rV W' w.heap.size v ys∧cF w W':=by
 have H:=cE h;clear h;go_enter func203,ntmps203
 go_wp2_with fail
 refine H.out.mono ?_;rintro e W' ⟨v,rfl,hR⟩;have HR:=cE hR;clear hR;go_wp2
 go_ret
 exact⟨v,rfl,HR.out⟩
section
variable{w:World}{lo:Nat→Prop}{b mb:Nat}{root:cP}{at_:Int}{M:List (cP×Nd)}
theorem dJ.DU(T:dJ w lo b mb root at_ M)(hM:M.length≤1000)(hkl:∀x∈M,x.1.length≤1000):
  Calls prog 111 #[.p b] w fun e W'=>∃v,e=.returned v∧rV W' w.heap.size v (gU M)∧cF w W':=by
 have gM:b<w.heap.size:=lt_of_block T.blk;obtain⟨K,hK⟩:=NP (gU M) (rK hkl);have hKl:K.length≤1000:=by rw[BI hK];exact hM
 obtain⟨w2,eS⟩:=cG ((w.alloc (.cells #[.p b] 57)).alloc (.cells #[.func (.func 204) #[] #[]] 124));obtain⟨EI,hs2,b1,b2⟩:=OX w _ _ _ _ w2 eS;have key:=Gx w.heap.size (w.heap.size+1) K hKl w2 (by
  intro W hW;intro l J Jx W3 J8 hJ _ hY h0;have hWs:W.heap.size=w.heap.size+3:=by rw[hW];simp;omega
  have agm:cF w2 W:=by rw[hW];exact cR (ag _ _) _
  have Df:cF w2 W3:=agm.trans (J8.mono agm.size);have Dg:cF w W3:=EI.trans (Df.mono EI.size);have hO:Boxed W3 w2.heap.size 28 (.n):=fZ (by rw[hW];exact aH w2 28 (.n)) J8 cL;have ap0:=J8.size;have key:=WQ 1 l w.heap.size (w.heap.size+1) (w2.heap.size+1) w2.heap.size b mb lo root at_ M hM K hK (fun _=>true) J Jx hY W3 hJ cL cL cL cL cL cL cL cL
   (fZ b1 Df cL).cell (fZ b2 Df cL).cell (T.below Dg) (by rw[lV hO];rfl) (fun W' _ q _=>(WB q.1 W').mono fun e w' ⟨he,hw⟩=>⟨he,by rw[hw];exact ag _ _⟩) h0
  rw[List.filter_eq_self.2 cN] at key;exact key)
 rw[hK] at key;have amn:=cE key;have iG:=cE EI;have lS:=cE eS;clear key EI eS b1 b2 hs2 T hK hKl;go_enter func111,ntmps111
 go_wp2_with fail
 refine(Ow _ _ _ rfl rfl).mono ?_;rintro e w' ⟨rfl,rfl⟩;go_wp2_with fail
 rw[←lS.out];refine(Mz _ _ _ _ amn.out).mono ?_;rintro e W' ⟨v,rfl,hr,hb⟩;have HR:=cE hr;have HB:=cE hb;clear hr hb;go_wp2
 go_ret
 exact⟨v,rfl,HR.out.mono iG.out.size,iG.out.trans (HB.out.mono iG.out.size)⟩
end
end
