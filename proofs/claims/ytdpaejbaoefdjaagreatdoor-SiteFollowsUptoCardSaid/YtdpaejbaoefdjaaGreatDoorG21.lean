/- Part 21. -/
import Derived.Test.YtdpaejbaoefdjaaGreatDoorG20
import Derived.Test.YtdpaejbaoefdjaaGreatDoorG8
open Go renaming callsIn_wide → aa,World → an,Value → aO
open Go.Fence renaming wide → af
open Go.RowKit.Below renaming refl → ag
open Array renaming replicate_zero → ah,replicate_succ → aj
open List renaming append_toArray → aq,size_toArray → au,push_toArray → ay,length_cons → aB,cons_append → aC,nil_append → aD,length_nil → aE,length_map → aF,getElem?_eq_getElem → aG,length_filter_le → aL,mem_of_getElem? → aM,map_eq_nil_iff → aN,take_add_one → aQ
open Nat renaming le_trans → aA,reduceSub → aI,reduceAdd → aJ
open Go.Boxed renaming new → aH
open Go.World renaming cell?_of_block → aK,size_alloc → aP
namespace Go.Proofs.YtdpaejbaoefdjaaGreatDoor
open Go.Proofs.Tryz
set_option maxRecDepth 100000
set_option maxHeartbeats 64000000
set_option linter.unusedVariables false
set_option linter.unusedSimpArgs false
section
open Go.RowKit Go.Shelf Go.MapKept Go.ChangeMaps Go.Maps Go.Sort
attribute [local go_sem] Oper.semAt_some
theorem Dq(a b c:cO)(h1:decide (a≤b)=true)(h2:decide (b≤c)=true):decide (a≤c)=true:=by
 simp only[decide_eq_true_eq] at*;exact List.le_trans h1 h2
theorem Dr(a b:cO):(decide (a≤b)||decide (b≤a))=true:=by
 simp only[Bool.or_eq_true,decide_eq_true_eq];exact List.le_total a b
def qy(L:List cO):List cO:=L.mergeSort fun x y=>decide (x≤y)
theorem iS(L:List cO):(qy L).Perm L:=List.mergeSort_perm L _
theorem uY(L:List cO):(qy L).Pairwise (fun x y=>x≤y):=by
 have:=List.pairwise_mergeSort (le:=fun x y:cO=>decide (x≤y)) Dq Dr L;exact this.imp fun h=>by simpa using h
theorem Cj{a b:List cO}(h1:a.Pairwise (fun x y=>x≤y))(h2:b.Pairwise (fun x y=>x≤y))(h:a.Perm b):a=b:=
 List.Perm.eq_of_pairwise (fun _ _ _ _ h1 h2=>List.le_antisymm h1 h2) h1 h2 h
theorem Gd{a b:List cO}(h:a.Perm b):qy a=qy b:=
 Cj (uY a) (uY b) (((iS a).trans h).trans (iS b).symm)
def iu(M:List (cO×Nd)):List cO:=qy (M.map (·.1))
theorem pF(M:List (cO×Nd)):(iu M).length=M.length:=by
 have:=(iS (M.map (·.1))).length_eq;simpa [iu] using this
theorem qi{α:Type}(f:α→Bool){L:List α}{k:Nat}{e:α}(hk:L[k]?=some e)(h:f e=true):(L.take (k+1)).filter f=(L.take k).filter f++[e]:=by
 rw[aQ,hk];simp[h]
theorem yK{α:Type}(f:α→Bool){L:List α}{k:Nat}{e:α}(hk:L[k]?=some e)(h:f e=false):(L.take (k+1)).filter f=(L.take k).filter f:=by
 rw[aQ,hk];simp[h]
theorem Bn{α:Type}(f:α→Bool)(L:List α)(k:Nat):(L.take k).filter f <+: L.filter f:=by
 conv=>rhs;rw[←List.take_append_drop k L,List.filter_append]
 exact List.prefix_append _ _
def rR(w:an)(base:Nat)(v:aO)(L:List cO):Prop:=w.ownsRow base 9 1 v L.length (L.map sv)
theorem rR.at{w:an}{base:Nat}{v:aO}{L:List cO}(h:rR w base v L):(v=.n∧L=[])∨∃g cap,v=.slice (some ⟨g,0,none⟩) L.length cap∧base≤g∧g<w.heap.size∧L.length≤cap∧(∃o,w.heap[g]?=some o∧o.isCells=true)∧∀i p,L[i]?=some p→w.cell? ⟨g,i,none⟩=some (.s p):=by
 rcases h.2 with ⟨h1,h0⟩|⟨g,cap,cur,h1,yG,hg,hnc,hcm,hcs,O3⟩
 ·exact .inl ⟨h1,List.eq_nil_of_length_eq_zero h0⟩
 subst h1;refine .inr ⟨g,cap,rfl,yG,(Array.getElem?_eq_some_iff.1 hg).1,hnc,⟨_,hg,rfl⟩,fun i p hp=>?_⟩;have:=h.cells (g:=g) rfl i (sv p) (by simp[hp]);rw[Addr.add_lit] at this;rw[Nat.zero_add] at this;exact this
abbrev Key:={q:cO // q.length≤1000}
theorem MF(L:List cO)(h:∀q∈L,q.length≤1000):∃K:List Key,K.map (·.1)=L:=by
 induction L with
 |nil=>exact⟨[],rfl⟩
 |cons x L ih=>
  obtain⟨K,hK⟩:=ih (fun q hq=>h q (List.mem_cons_of_mem _ hq));exact⟨⟨x,h x (List.mem_cons_self ..)⟩::K,by rw[List.map_cons,hK]⟩
theorem AS{K:List Key}{M:List (cO×Nd)}(hK:K.map (·.1)=iu M):K.length=M.length:=by
 have:=congrArg List.length hK;simpa [pF] using this
theorem keys_filter(f:cO→Bool)(K:List Key):(K.filter fun q=>f q.1).map (·.1)=(K.map (·.1)).filter f:=by
 rw[List.filter_map];rfl
theorem yA{w:an}{mb:Nat}{m:List (cO×Raw)}{M:List (cO×Nd)}{lo:Nat→Prop}(hm:dS prog 9 sv Raw.val w mb m)(hl:iV w lo m M)(hM:M.length≤1000):
  CallsIn af 5 prog 116 #[.func (.func 207) #[] #[.p w.heap.size]] (w.alloc (.cells #[.map (some mb)] 120)) fun e w'=>∃v:aO,e=.returned v∧
   rR w' (w.heap.size+1) v (iu M)∧cE w w':=by
 obtain⟨D0,hD,hp⟩:=Vy hm (by rw[hl.len];exact hM);have hsz:Go.Maps.size D0≤m.length:=hD.size_le;have hlm:=hl.len;refine(Tryz.nu mb m.length D0 TV w hD (by unfold maxLen;omega) cK).mono ?_;rintro e w' ⟨v,ss,rfl,hss,hown,_,hb⟩;have hs:iu M=ss.mergeSort (fun x y=>decide (x≤y)):=by
  unfold iu;rw[←hl.keys];exact Gd (hp.symm.trans hss.symm)
 refine⟨v,rfl,?_,?_⟩
 ·unfold rR
  rw[hs,List.length_mergeSort];have:((w.alloc (.cells #[.map (some mb)] 120)).heap.size)=w.heap.size+1:=by simp
  rw[this] at hown;exact hown
 exact(cT (ag _ w) _).trans (hb.mono cM)
theorem Vh(n l tB wB n₀ OB b mb:Nat)(lo:Nat→Prop)(cP:cO)(cS:Int)(M:List (cO×Nd))(hM:M.length≤1000)(K:List Key)(hK:K.map (·.1)=iu M)(f:Key→Bool)(J Jx:List Key→an→Prop)
  (hY:∀pre x W,J pre W→pre.length<1000→YieldAt af (n - 1) prog l #[sv x.1] W fun e W'=>
   (e=.returned (.T)∧J (pre++[x]) W'∧jo n₀ OB W W')∨(e=.returned (.F)∧Jx (pre++[x]) W'))
  (W:an) (hJ:AbidesFrom W.heap.size J) (hn:n₀≤W.heap.size) (htB:tB<n₀) (htO:tB≠OB) (hwB:wB<n₀) (hwO:wB≠OB) (hb:b<n₀) (hbO:b≠OB) (hOB:OB<n₀)
  (ht:W.cell? ⟨tB,0,none⟩=some (.p b)) (hw:W.cell? ⟨wB,0,none⟩=some (.func (.func 204) #[] #[]))
  (T:dN W lo b mb cP cS M) (hrO:rowOf W OB=none)
  (hW:∀W',jo n₀ OB W W'→∀q∈K,Calls prog 204 #[.s q.1] W' fun en w'=>en=.returned (.bool (f q))∧cE W' w')
  (h0:J [] W):
  CallsIn af n prog 115 #[.func (.yield l) #[] #[],.p tB,.p wB] W fun e W'=>(∃v,e=.returned v)∧
   ((∃ys,ys=K.filter f∧J ys W')∨(∃pre,pre <+: K.filter f∧Jx pre W')):=by
 obtain⟨c0,c1,c2⟩:=T.cells;obtain⟨m,hm,hl⟩:=T.map;have HKS:=cD (yA hm hl hM);obtain⟨N,hN⟩:=cF K.length;have hNM:N≤1000:=by rw[hN,AS hK];exact hM
 have UT:=cD hK;have HN:=cD hN;have HR:=cD hrO;have HW:=cD hW;clear hN T hm hl hM c0 c1 hrO hW hK;refine callsIn_of_wp func115 rfl trivial ?_ rfl;simp only[ntmps115,au,aB,aE,aJ,aI,aj,ah,ay,aq,aD,aC];gi_wp2_with fail
 refine⟨trivial,(fun h=>(by cases h)),?_⟩;refine(aa.2 (aa.1 (Tryz.td (some mb) W))).mono ?_;rintro e w' ⟨rfl,rfl⟩;gi_wp2_with fail
 refine⟨trivial,(fun h=>(by cases h)),?_⟩;refine(aa.2 (aa.1 HKS.out)).mono ?_;rintro e W1 ⟨vk,rfl,hrow,B1⟩;have jT:=cD B1;have hks:=hrow.at;clear B1;have hR1:rowOf W1 OB=none:=(lU (jT.out.block OB cK)).trans HR.out;have FL:=cD hR1;have Z1:=jT.out.size;have hJ1:J [] W1:=hJ _ _ _ none h0 ⟨jT.out.os,jT.out.tape,jT.out.output,jT.out.size,fun k hk _=>jT.out.block k hk⟩ (fun _ e=>by cases e);have aaF:=cD (fO (n:=n₀) (OB:=OB) jT.out hn cK);clear hR1 h0 ht c2 HKS HR hrow;obtain⟨ao,c,hvk,hcl⟩:∃ao c,vk=.slice ao N c∧∀i p,K[i]?=some p→∃g,ao=some ⟨g,0,none⟩∧g≠OB∧(∃o,W1.heap[g]?=some o∧o.isCells=true)∧W1.cell? ⟨g,i,none⟩=some (.s p.1):=by
  rw[←UT.out] at hks;rw[aF,aN] at hks;rcases hks with ⟨h1,h2⟩|⟨g,cap,h1,yG,SG,hnc,ho,hat⟩
  ·refine⟨none,0,by rw[h1,HN.out,h2];rfl,fun i p hp=>by rw[h2] at hp;simp at hp⟩
  exact⟨some ⟨g,0,none⟩,cap,by rw[h1,HN.out],fun i p hp=>⟨g,rfl,by omega,ho,hat i p.1 (by simp[hp])⟩⟩
 subst hvk;have pT:=cD hcl;clear hcl hks;gi_wp2
 gi_loopw [15] (fun p wr=>∃i:Nat,i≤N∧p=.i i∧Hid (jo n₀ OB W1 wr)∧J ((K.take i).filter f) wr)
  (fun p _=>N - (intOf p).toNat)
 case atStart=>
  exact⟨0,by omega,rfl,cD (qf _ _ _),by simpa using hJ1⟩
 obtain⟨i,hi,rfl,HB,BX⟩:=hrel;have hcw:wr.cell? ⟨wB,0,none⟩=some (.func (.func 204) #[] #[]):=(HB.out.cell (p:=⟨wB,0,none⟩) hwB hwO).trans ((jT.out.cell (p:=⟨wB,0,none⟩) (by show wB<W.heap.size;omega)).trans hw);have hsz:n₀≤wr.heap.size:=aA (aA hn Z1) HB.out.size;by_cases hlt:i<N
 ·obtain⟨x,hx⟩:∃x,K[i]?=some x:=⟨_,aG (by rw[←HN.out];exact hlt)⟩
  obtain⟨g,rfl,hgO,⟨o,zy,hoc⟩,hgc⟩:=pT.out i x hx;have Yg:wr.cell? ⟨g,i,none⟩=some (.s x.1):=(aK (w:=W1) (a:=⟨g,i,none⟩) ((HB.out.cells g o zy hoc hgO (by rw[FL.out];simp)).trans zy.symm)).trans hgc;have hxm:x∈K:=aM hx;have HK:=cD (HW.out wr (fT aaF.out HB.out) x hxm);have HX:=cD hx;have HJ:=cD hJ;have HJs:=cD BX;have HY:=cD hY;clear hx hxm zy hgc hJ BX hY;cases hl:f x with
  |false=>
   rw[hl] at HK;have HL:=cD hl;clear hl;gi_wp2_with fail
   refine⟨trivial,(fun h=>(by cases h)),?_⟩;refine(aa.2 HK.out).mono ?_;rintro e w' ⟨rfl,B2⟩;have X1:=cD B2;clear B2;gi_wp2
   refine⟨(fun _ h=>(by cases h)),?_⟩;gi_wp2
   go_roundw
   case rel=>
    refine⟨i+1,by omega,by go_num,cD (fT HB.out (fO X1.out hsz cK)),?_⟩;rw[yK f HX.out HL.out];exact HJ.out _ _ _ none HJs.out ⟨X1.out.os,X1.out.tape,X1.out.output,X1.out.size,fun k hk _=>X1.out.block k hk⟩ (fun _ e=>by cases e)
   case measure=>simp[intOf];omega
  |true=>
  rw[hl] at HK;have HL:=cD hl;clear hl;have hlf:((K.take i).filter f).length<1000:=by
   have h1:=aL f (K.take i);have h2:(K.take i).length≤i:=by simp;omega
   omega
  gi_wp2_with fail
  refine⟨trivial,(fun h=>(by cases h)),?_⟩;refine(aa.2 HK.out).mono ?_;rintro e w' ⟨rfl,B2⟩;have X1:=cD B2;clear B2;have hJ2:J ((K.take i).filter f) w':=HJ.out _ _ _ none HJs.out ⟨X1.out.os,X1.out.tape,X1.out.output,X1.out.size,fun k hk _=>X1.out.block k hk⟩ (fun _ e=>by cases e);obtain⟨fn,tmps,assign,body,hy,hR⟩:=HY.out _ x _ hJ2 hlf;have HR:=cD hR;clear hJ2 hR;unfold sv at hy;gi_wp2_with fail
  refine⟨(fun h=>(by cases h)),?_⟩;refine HR.out.mono ?_;rintro e W3 (⟨rfl,Pj,xJ⟩|⟨rfl,SQ⟩)
  ·have HJ3:=cD Pj
   have uz:=cD (fT (fT HB.out (fO X1.out hsz cK)) xJ);clear Pj xJ;gi_wp2
   go_roundw
   case rel=>exact⟨i+1,by omega,by go_num,uz,by rw[qi f HX.out HL.out];exact HJ3.out⟩
   case measure=>simp[intOf];omega
  gi_wp2
  refine bodyPost_ret (results_none rfl _ _ _) rfl ?_;refine⟨⟨_,rfl⟩,.inr ⟨_,?_,SQ⟩⟩;rw[←qi f HX.out HL.out];exact Bn f K (i+1)
 obtain rfl:i=N:=by omega
 gi_wp2
 go_end0
 refine⟨⟨_,rfl⟩,.inl ⟨_,rfl,?_⟩⟩;have h:=BX;rw[HN.out,List.take_length] at h;exact h
theorem Vi(n l tB wB n₀ OB b mb:Nat)(lo:Nat→Prop)(cP:cO)(cS:Int)(M:List (cO×Nd))(hM:M.length≤1000)(K:List Key)(hK:K.map (·.1)=iu M)(f:Key→Bool)(pB uB:Nat)(J Jx:List Key→an→Prop)
  (hY:∀pre x W,J pre W→pre.length<1000→YieldAt af (n - 1) prog l #[sv x.1] W fun e W'=>
   (e=.returned (.T)∧J (pre++[x]) W'∧jo n₀ OB W W')∨(e=.returned (.F)∧Jx (pre++[x]) W'))
  (W:an) (hJ:AbidesFrom W.heap.size J) (hn:n₀≤W.heap.size) (htB:tB<n₀) (htO:tB≠OB) (hwB:wB<n₀) (hwO:wB≠OB) (hb:b<n₀) (hbO:b≠OB) (hOB:OB<n₀)
  (ht:W.cell? ⟨tB,0,none⟩=some (.p b)) (hw:W.cell? ⟨wB,0,none⟩=some (.func (.func 53) #[] #[.p pB,.p uB]))
  (T:dN W lo b mb cP cS M) (hrO:rowOf W OB=none)
  (hW:∀W',jo n₀ OB W W'→∀q∈K,Calls prog 53 #[.s q.1,.p pB,.p uB] W' fun en w'=>en=.returned (.bool (f q))∧cE W' w')
  (h0:J [] W):
  CallsIn af n prog 115 #[.func (.yield l) #[] #[],.p tB,.p wB] W fun e W'=>(∃v,e=.returned v)∧
   ((∃ys,ys=K.filter f∧J ys W')∨(∃pre,pre <+: K.filter f∧Jx pre W')):=by
 obtain⟨c0,c1,c2⟩:=T.cells;obtain⟨m,hm,hl⟩:=T.map;have HKS:=cD (yA hm hl hM);obtain⟨N,hN⟩:=cF K.length;have hNM:N≤1000:=by rw[hN,AS hK];exact hM
 have UT:=cD hK;have HN:=cD hN;have HR:=cD hrO;have HW:=cD hW;clear hN T hm hl hM c0 c1 hrO hW hK;refine callsIn_of_wp func115 rfl trivial ?_ rfl;simp only[ntmps115,au,aB,aE,aJ,aI,aj,ah,ay,aq,aD,aC];gi_wp2_with fail
 refine⟨trivial,(fun h=>(by cases h)),?_⟩;refine(aa.2 (aa.1 (Tryz.td (some mb) W))).mono ?_;rintro e w' ⟨rfl,rfl⟩;gi_wp2_with fail
 refine⟨trivial,(fun h=>(by cases h)),?_⟩;refine(aa.2 (aa.1 HKS.out)).mono ?_;rintro e W1 ⟨vk,rfl,hrow,B1⟩;have jT:=cD B1;have hks:=hrow.at;clear B1;have hR1:rowOf W1 OB=none:=(lU (jT.out.block OB cK)).trans HR.out;have FL:=cD hR1;have Z1:=jT.out.size;have hJ1:J [] W1:=hJ _ _ _ none h0 ⟨jT.out.os,jT.out.tape,jT.out.output,jT.out.size,fun k hk _=>jT.out.block k hk⟩ (fun _ e=>by cases e);have aaF:=cD (fO (n:=n₀) (OB:=OB) jT.out hn cK);clear hR1 h0 ht c2 HKS HR hrow;obtain⟨ao,c,hvk,hcl⟩:∃ao c,vk=.slice ao N c∧∀i p,K[i]?=some p→∃g,ao=some ⟨g,0,none⟩∧g≠OB∧(∃o,W1.heap[g]?=some o∧o.isCells=true)∧W1.cell? ⟨g,i,none⟩=some (.s p.1):=by
  rw[←UT.out] at hks;rw[aF,aN] at hks;rcases hks with ⟨h1,h2⟩|⟨g,cap,h1,yG,SG,hnc,ho,hat⟩
  ·refine⟨none,0,by rw[h1,HN.out,h2];rfl,fun i p hp=>by rw[h2] at hp;simp at hp⟩
  exact⟨some ⟨g,0,none⟩,cap,by rw[h1,HN.out],fun i p hp=>⟨g,rfl,by omega,ho,hat i p.1 (by simp[hp])⟩⟩
 subst hvk;have pT:=cD hcl;clear hcl hks;gi_wp2
 gi_loopw [15] (fun p wr=>∃i:Nat,i≤N∧p=.i i∧Hid (jo n₀ OB W1 wr)∧J ((K.take i).filter f) wr)
  (fun p _=>N - (intOf p).toNat)
 case atStart=>
  exact⟨0,by omega,rfl,cD (qf _ _ _),by simpa using hJ1⟩
 obtain⟨i,hi,rfl,HB,BX⟩:=hrel;have hcw:wr.cell? ⟨wB,0,none⟩=some (.func (.func 53) #[] #[.p pB,.p uB]):=(HB.out.cell (p:=⟨wB,0,none⟩) hwB hwO).trans ((jT.out.cell (p:=⟨wB,0,none⟩) (by show wB<W.heap.size;omega)).trans hw);have hsz:n₀≤wr.heap.size:=aA (aA hn Z1) HB.out.size;by_cases hlt:i<N
 ·obtain⟨x,hx⟩:∃x,K[i]?=some x:=⟨_,aG (by rw[←HN.out];exact hlt)⟩
  obtain⟨g,rfl,hgO,⟨o,zy,hoc⟩,hgc⟩:=pT.out i x hx;have Yg:wr.cell? ⟨g,i,none⟩=some (.s x.1):=(aK (w:=W1) (a:=⟨g,i,none⟩) ((HB.out.cells g o zy hoc hgO (by rw[FL.out];simp)).trans zy.symm)).trans hgc;have hxm:x∈K:=aM hx;have HK:=cD (HW.out wr (fT aaF.out HB.out) x hxm);have HX:=cD hx;have HJ:=cD hJ;have HJs:=cD BX;have HY:=cD hY;clear hx hxm zy hgc hJ BX hY;cases hl:f x with
  |false=>
   rw[hl] at HK;have HL:=cD hl;clear hl;gi_wp2_with fail
   refine⟨trivial,(fun h=>(by cases h)),?_⟩;refine(aa.2 HK.out).mono ?_;rintro e w' ⟨rfl,B2⟩;have X1:=cD B2;clear B2;gi_wp2
   refine⟨(fun _ h=>(by cases h)),?_⟩;gi_wp2
   go_roundw
   case rel=>
    refine⟨i+1,by omega,by go_num,cD (fT HB.out (fO X1.out hsz cK)),?_⟩;rw[yK f HX.out HL.out];exact HJ.out _ _ _ none HJs.out ⟨X1.out.os,X1.out.tape,X1.out.output,X1.out.size,fun k hk _=>X1.out.block k hk⟩ (fun _ e=>by cases e)
   case measure=>simp[intOf];omega
  |true=>
  rw[hl] at HK;have HL:=cD hl;clear hl;have hlf:((K.take i).filter f).length<1000:=by
   have h1:=aL f (K.take i);have h2:(K.take i).length≤i:=by simp;omega
   omega
  gi_wp2_with fail
  refine⟨trivial,(fun h=>(by cases h)),?_⟩;refine(aa.2 HK.out).mono ?_;rintro e w' ⟨rfl,B2⟩;have X1:=cD B2;clear B2;have hJ2:J ((K.take i).filter f) w':=HJ.out _ _ _ none HJs.out ⟨X1.out.os,X1.out.tape,X1.out.output,X1.out.size,fun k hk _=>X1.out.block k hk⟩ (fun _ e=>by cases e);obtain⟨fn,tmps,assign,body,hy,hR⟩:=HY.out _ x _ hJ2 hlf;have HR:=cD hR;clear hJ2 hR;unfold sv at hy;gi_wp2_with fail
  refine⟨(fun h=>(by cases h)),?_⟩;refine HR.out.mono ?_;rintro e W3 (⟨rfl,Pj,xJ⟩|⟨rfl,SQ⟩)
  ·have HJ3:=cD Pj
   have uz:=cD (fT (fT HB.out (fO X1.out hsz cK)) xJ);clear Pj xJ;gi_wp2
   go_roundw
   case rel=>exact⟨i+1,by omega,by go_num,uz,by rw[qi f HX.out HL.out];exact HJ3.out⟩
   case measure=>simp[intOf];omega
  gi_wp2
  refine bodyPost_ret (results_none rfl _ _ _) rfl ?_;refine⟨⟨_,rfl⟩,.inr ⟨_,?_,SQ⟩⟩;rw[←qi f HX.out HL.out];exact Bn f K (i+1)
 obtain rfl:i=N:=by omega
 gi_wp2
 go_end0
 refine⟨⟨_,rfl⟩,.inl ⟨_,rfl,?_⟩⟩;have h:=BX;rw[HN.out,List.take_length] at h;exact h
attribute [local go_sem] Oper.semAt_some
theorem qs(w:an)(v:aO)(t:TypeId):∀j u,[v][j]?=some u→(w.alloc (.cells #[v] t)).cell? ((⟨w.heap.size,0,none⟩:Addr).add j)=some u:=by
 intro j u hu;have ai7:(⟨w.heap.size,0,none⟩:Addr).add j=⟨w.heap.size,j,none⟩:=by unfold Addr.add;split<;>simp_all
 rw[ai7,cell_of_row _ _ j #[v] t (0,0) (heap_alloc_new w _)];simpa using hu
theorem vi{w w':an}{base base':Nat}{e:TypeId}{size:Nat}{v:aO}{n:Nat}{xs:List aO}(h:w.ownsRow base e size v n xs)(hb:base'≤base)(hk:∀g cs fr,v.ownBlock=some g→base≤g→w.heap[g]?=some (.cells cs e fr)→w'.heap[g]?=w.heap[g]?):w'.ownsRow base' e size v n xs:=by
 refine⟨h.1,?_⟩;rcases h.2 with h0|⟨g,cap,cur,rfl,yG,hg,r⟩
 ·exact .inl h0
 exact .inr ⟨g,cap,cur,rfl,by omega,(hk g _ _ rfl yG hg).trans hg,r⟩
theorem rR.mono{w:an}{base base':Nat}{v:aO}{L:List cO}(h:rR w base v L)(hb:base'≤base):rR w base' v L:=
 vi h hb fun _ _ _ _ _ _=>rfl
theorem rA{M:List (cO×Nd)}(h:∀x∈M,x.1.length≤1000):∀q∈iu M,q.length≤1000:=fun q hq=>by
 obtain⟨x,hx,rfl⟩:=List.mem_map.1 ((iS _).mem_iff.1 hq);exact h x hx
theorem Nz(w:an)(a1 a2:aO)(t1 t2:TypeId)(W:an)(h:W=(w.alloc (.cells #[a1] t1)).alloc (.cells #[a2] t2)):
  cE w W∧W.heap.size=w.heap.size+2∧Boxed W w.heap.size t1 a1∧Boxed W (w.heap.size+1) t2 a2:=by
 subst h;have b1:=aH w t1 a1;have b2:=aH (w.alloc (.cells #[a1] t1)) t2 a2;simp only[aP] at b2;exact⟨cT (cT (ag _ w) _) _,by simp,b1.alloc _,b2⟩
theorem FB(tB wB:Nat)(ys:List Key)(hlen:ys.length≤1000)(w:an)
  (hseq:∀W,W=w.alloc (.cells #[.n] 28)→SeqStopsK af 1 prog 115 #[.p tB,.p wB] (fun x:Key=>#[sv x.1]) (jo (w.heap.size+1) w.heap.size) (fun zs=>zs=ys) (fun pre=>pre <+: ys) 1000 W):
  Calls prog 269 #[.n,.func (.func 115) #[] #[.p tB,.p wB]] w fun e W'=>∃v,e=.returned v∧rR W' w.heap.size v (ys.map (·.1))∧cE w W':=by
 obtain⟨i0,hi,hz0,hz1,hz2⟩:=info_parts E0;refine(aa (n:=2)).1 ?_;refine callsIn_of_wp_marks func269 rfl trivial ?_ rfl;simp only[ntmps269,au,aB,aE,aJ,aI,aj,ah,ay,aq,aD,aC];gi_wp2
 have bO:=aH w 28 (.n);refine wpIn_rangeFunc_ownG (α:=Key) rfl cK (gf:=115) (lb:=#[.p tB,.p wB]) rfl trivial (enters_of func115 cJ rfl)
  (hseq _ rfl) fT (MH cM cM) (ag _ _) (fun _=>rfl)
  (fun pre W=>(∃v,Boxed W w.heap.size 28 v∧W.ownsRow (w.heap.size+1) 9 1 v pre.length (pre.map fun q=>sv q.1)∧True)∧jo (w.heap.size+1) w.heap.size (w.alloc (.cells #[.n] 28)) W)
  (fun _ _ _=>False)
  (OwnFrom.and (Own.from (holdsRow_own (w.heap.size+1) w.heap.size 28 9 1 (fun pre:List Key=>pre.length) (fun pre=>pre.map fun q=>sv q.1) (fun _ _=>True)) _) (sZ cM cK cM))
  (fun _ _ _ _ _ hs _ _=>hs)
  ⟨⟨_,bO,World.ownsRow_nil _ _ _ _,trivial⟩,qf _ _ _⟩
  (fun x=>{tmps:=#[.n,.func (.func 115) #[] #[.p tB,.p wB],.p w.heap.size,undef,.n,sv x.1,.func (.func 115) #[] #[.p tB,.p wB],sv x.1,undef,undef,undef,undef,undef],defers:=[]}) ?assign ?body ?done ?stop
 case assign=>
  intro l x W K hK;unfold sv at*;gi_wp2
  exact hK
 case body=>
  rintro l pre x W ⟨⟨v,hv,hrow,_⟩,hB⟩ hlt;have hc:=hv.cell;have hsz:=hB.size;simp only[aP] at hsz;unfold sv;gi_wp2_with (gi_at_builtin;refine sJ _ rfl _ _ 28 rfl (w.heap.size+1) 9 i0 (.z) 1 16 underlying28 hi hz0 hz1 hz2 rfl cL _ _ _ rfl (hrow.alloc _) ⟨W.heap.size,0,none⟩ 1 1 [.s x.1] rfl rfl (qs W _ _) (by intro u hu;simp at hu;subst hu;rfl) (by unfold maxLen;omega) cK (by simp;omega) ?_;intro v' w1 hown' hgrow zu;obtain⟨g',cap',rfl⟩:=ownsRow_succ hown';obtain⟨sN,qg,hr2,hk2,dI⟩:=pQ (n:=w.heap.size+1) hv cL hrow hsz (Nat.le_refl _) hown' hgrow zu;have hc1:=sN.cell;have AY:=sN.frozen)
  exact⟨hk2.from _,dI,⟨_,qg,by rw[List.length_append,List.map_append];exact hr2,trivial⟩,fT hB dI⟩
 case done=>
  rintro D ys W hD rfl ⟨⟨v,hv,hrow,_⟩,hB⟩ hK;have hc:=hv.cell;gi_wp2
  refine⟨by simp,.inl ⟨_,_,rfl,run_takeDeferred hK,?_⟩⟩;refine⟨_,results_tmp rfl _ _ _,v,rfl,?_,?_⟩
  ·refine rR.mono (base:=w.heap.size+1) ?_ cK
   have h:=ownsRow_putObj hrow (.deferred none) hK rfl;unfold rR;rw[aF,List.map_map];exact h
  have h1:cE w W:=(cT (ag _ w) _).trans (kO hB cK cK);refine h1.trans ⟨rfl,rfl,rfl,by simp,fun k hk=>World.putObj_heap_other (by simp at hD;omega)⟩
 rintro D c pre W _ _ h _;exact h.elim
theorem Lj(tB wB:Nat)(w:an)(ys:List cO)(h:Calls prog 269 #[.n,.func (.func 115) #[] #[.p tB,.p wB]] w fun e W'=>∃v,e=.returned v∧rR W' w.heap.size v ys∧cE w W'):
  Calls prog 203 #[.func (.func 115) #[] #[.p tB,.p wB]] w fun e W'=>∃v,e=.returned v∧rR W' w.heap.size v ys∧cE w W':=by
 have H:=cD h;clear h;go_enter func203,ntmps203
 go_wp2_with fail
 refine H.out.mono ?_;rintro e W' ⟨v,rfl,hR⟩;have HR:=cD hR;clear hR;go_wp2
 go_ret
 exact⟨v,rfl,HR.out⟩
section
variable{w:World}{lo:Nat→Prop}{b mb:Nat}{cP:cO}{cS:Int}{M:List (cO×Nd)}
theorem dN.Dc(T:dN w lo b mb cP cS M)(hM:M.length≤1000)(hkl:∀x∈M,x.1.length≤1000):
  Calls prog 111 #[.p b] w fun e W'=>∃v,e=.returned v∧rR W' w.heap.size v (iu M)∧cE w W':=by
 have gQ:b<w.heap.size:=lt_of_block T.blk;obtain⟨K,hK⟩:=MF (iu M) (rA hkl);have hKl:K.length≤1000:=by rw[AS hK];exact hM
 obtain⟨w2,fH⟩:=cF ((w.alloc (.cells #[.p b] 57)).alloc (.cells #[.func (.func 204) #[] #[]] 124));obtain⟨DJ,hs2,b1,b2⟩:=Nz w _ _ _ _ w2 fH;have key:=FB w.heap.size (w.heap.size+1) K hKl w2 (by
  intro W hW;intro l J Jx W3 Je hJ _ hY h0;have hWs:W.heap.size=w.heap.size+3:=by rw[hW];simp;omega
  have aep:cE w2 W:=by rw[hW];exact cT (ag _ _) _
  have Cw:cE w2 W3:=aep.trans (Je.mono aep.size);have Cy:cE w W3:=DJ.trans (Cw.mono DJ.size);have hO:Boxed W3 w2.heap.size 28 (.n):=gj (by rw[hW];exact aH w2 28 (.n)) Je cK;have aox:=Je.size;have key:=Vh 1 l w.heap.size (w.heap.size+1) (w2.heap.size+1) w2.heap.size b mb lo cP cS M hM K hK (fun _=>true) J Jx hY W3 hJ cK cK cK cK cK cK cK cK
   (gj b1 Cw cK).cell (gj b2 Cw cK).cell (T.below Cy) (by rw[lT hO];rfl) (fun W' _ q _=>(U3 q.1 W').mono fun e w' ⟨he,hw⟩=>⟨he,by rw[hw];exact ag _ _⟩) h0
  rw[List.filter_eq_self.2 cM] at key;exact key)
 rw[hK] at key;have aku:=cD key;have iK:=cD DJ;have nW:=cD fH;clear key DJ fH b1 b2 hs2 T hK hKl;go_enter func111,ntmps111
 go_wp2_with fail
 refine(Nc _ _ _ rfl rfl).mono ?_;rintro e w' ⟨rfl,rfl⟩;go_wp2_with fail
 rw[←nW.out];refine(Lj _ _ _ _ aku.out).mono ?_;rintro e W' ⟨v,rfl,hr,hb⟩;have HR:=cD hr;have HB:=cD hb;clear hr hb;go_wp2
 go_ret
 exact⟨v,rfl,HR.out.mono iK.out.size,iK.out.trans (HB.out.mono iK.out.size)⟩
end
end
