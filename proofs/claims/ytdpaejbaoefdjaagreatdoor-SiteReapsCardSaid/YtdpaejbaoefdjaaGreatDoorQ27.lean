/- Part 27. -/
import Derived.Test.YtdpaejbaoefdjaaGreatDoorQ25
import Derived.WalkLawsBesides
import Derived.Test.YtdpaejbaoefdjaaGreatDoorQ17
open Go renaming heap_alloc_new → aa,cell_of_row → af,World → aj,Value → an,wpList_load_mid → aA,wpList_store_mid → aC,wp_region_held_drew → aE,Calls → aI,bodyPost_ret → aJ,heap_alloc_old → aK,wpAnyH_done → aO,undef → aT,TypeId → aU,Addr → aV,Ending → aW,PanicEntry → aY,maxLen → bq,wpS_region → bz,results_none → bC
open Go.RowKit.Below renaming refl → ag
open Go.World renaming rangeAt_setCells_same → ah,rangeAt → aF,frozen? → aG,size_alloc → aH,setCell → aM
open Nat renaming lt_of_lt_of_le → aq,zero_add → ay,le_refl → aB,le_trans → aS,le_of_lt → aX,le_succ → bg
open Go.Value renaming oneCell' → au
open Array renaming getElem?_modify → aD,replicate → aZ
open List renaming cons_append → aL,nil_append → aN,length_append → aP,getElem?_append_right → aQ,getElem?_append_left → aR,take_of_length_le → bu,mem_of_getElem? → bA,flatMap_cons → bF
open Go.Exit renaming thenS → bh
open Option renaming getD_some → bB
open Go.Instr renaming typeAssert → bG
namespace Go.Proofs.YtdpaejbaoefdjaaGreatDoor
open Go.Proofs.Tryz
set_option maxRecDepth 100000
set_option maxHeartbeats 64000000
set_option linter.unusedVariables false
set_option linter.unusedSimpArgs false
section
open Go.RowKit Go.Shelf Go.MapKept Go.ChangeMaps Go.Maps Go.Sort
def Yu(x:Int):an:=.iface 25 (.i x)
def fH(x:Int):aW:=.panicked [{v:=Yu x,recovered:=false}]
theorem vZ(x:Int)(w:aj):aI prog 183 #[.T,.i x] w fun e w'=>e=.returned (.tuple #[])∧w'=w:=by
 go_enter func183,ntmps183
 go_wp2
 (try simp only[Exit.inBlock,Exit.then]);refine bodyPost_end (bC rfl _ _ _) rfl ?_
 exact⟨rfl,rfl⟩
theorem FP(x:Int)(w:aj):aI prog 183 #[.F,.i x] w fun e w'=>e=fH x∧w'=w:=by
 go_enter func183,ntmps183
 go_wp2
 exact⟨rfl,rfl,rfl⟩
theorem Np(s n:Int)(w:aj):(binOp .eql 31 (.agg #[.i s,.u n]) (.agg #[.I,.U])).run prog w=.ok (.bool (ia s n)) w:=by
 unfold ia;by_cases h1:s=0<;>by_cases h2:n=0<;>simp[go_sem,h1,h2]
theorem Nl(s n:Int)(w:aj):(binOp .neq 31 (.agg #[.i s,.u n]) (.agg #[.I,.U])).run prog w=.ok (.bool (!ia s n)) w:=by
 unfold ia;by_cases h1:s=0<;>by_cases h2:n=0<;>simp[go_sem,h1,h2]
structure cV where
 kind:Int
 path:cP
 da:Option aV
 dn:Nat
 dc:Nat
 gS:Int
 seq:Bool
 mM:Bool
 pa:Option aV
 pn:Nat
 pc:Nat
def cV.cells(r:cV):List an:=[.b r.kind,.s r.path,.slice r.da r.dn r.dc,.i r.gS,.bool r.seq,.bool r.mM,.slice r.pa r.pn r.pc]
def cV.val(r:cV):an:=.agg r.cells.toArray
structure eZ(w:aj)(lo:Nat→Prop)(r:cV)(o:eC):Prop where
 kind:r.kind=o.kind
 path:r.path=o.path
 gS:r.gS=o.gS
 seq:r.seq=o.seq
 mM:r.mM=o.mM
 len:r.dn=o.data.length
 data:eB w lo w.heap.size r.da o.data
 nil:r.da=none→o.data=[]∧r.dc=0
theorem eZ.below{w w':aj}{lo:Nat→Prop}{r:cV}{o:eC}(h:eZ w lo r o)(hb:cF w w'):eZ w' lo r o:=⟨h.kind,h.path,h.gS,h.seq,h.mM,h.len,(h.data.below hb).mono (fun _ h=>h) hb.size,h.nil⟩
theorem eZ.both{w:aj}{lo lo':Nat→Prop}{q:cV}{x:eC}(h:eZ w lo q x)(hl:∀b,lo b→b<w.heap.size→lo' b):eZ w lo' q x:=
 ⟨h.kind,h.path,h.gS,h.seq,h.mM,h.len,fun j c hj=>by
  obtain⟨b,off,h1,h2,h3,h4⟩:=h.data j c hj;exact⟨b,off,h1,hl b h2 h3,h3,h4⟩,h.nil⟩
structure dh(X:Nat→Prop)(w0 w:aj)(d b:Nat)(root:cP)(at_ cnt:Int)(M:List (cP×Nd))(who:dW)(v:an)(L:List cZ)(E:List gh):Prop where
 tree:TR w0 w b root cnt M
 blk:w.heap[d]?=some (.cells #[.p b,.v at_,.i who.site,.u who.n,v] 158 (0,0))
 row:yO w w0.heap.size v L E
 hd:w0.heap.size≤d
 inv:Inv root M
 A8:eV w (fun k=>v.ownBlock≠some k∧¬X k) L E
 old:∀k,X k→k<w.heap.size
 nO:∃lo mb,dJ w lo b mb root cnt M∧∀k,lo k→(v.ownBlock≠some k∧k≠d)∧¬X k
theorem dh.c0{X:Nat→Prop}{w0 w:aj}{d b:Nat}{root:cP}{at_ cnt:Int}{M:List (cP×Nd)}{who:dW}{v:an}{L:List cZ}{E:List gh}(D:dh X w0 w d b root at_ cnt M who v L E):w.cell? ⟨d,0,none⟩=some (.p b):=af _ _ 0 _ 158 (0,0) D.blk
theorem tZ{w1:aj}{B:Nat}(h:w1.heap[B]?=some (.cells #[.n,.U,.U,.U,.I,.U,.V,.V,.V] 44 (0,0))):w1.there B 0 9:=by
 intro j hj;refine⟨?_,by simp[aG,h]⟩;rw[ay,af _ _ j _ 44 (0,0) h];rcases(show j=0∨j=1∨j=2∨j=3∨j=4∨j=5∨j=6∨j=7∨j=8 by omega) with rfl|rfl|rfl|rfl|rfl|rfl|rfl|rfl|rfl<;>rfl
theorem yG(w2:aj)(cs:List an)(t:aU):(w2.alloc (.cells cs.toArray t)).rangeAt w2.heap.size 0 cs:=fun j u hu=>by
 rw[ay,af _ _ j _ t (0,0) (aa w2 _)];simpa using hu
theorem mc{w w4:aj}{B:Nat}(hb:cF w w4)(hB:w.heap.size≤B)(cs:List an):cF w (w4.setCells B 0 cs):=
 hb.trans ((Kept.setCells (S:=(·=B)) (p:=B) rfl cs 0 (Kept.refl _ w4)).below hb.size (fun k e=>by have e:k=B:=e;omega))
theorem Reads.cells{w4:aj}{lo:Nat→Prop}{r:Raw}{nd:Nd}(h:Reads w4 lo r nd){B:Nat}(hn:∀k,lo k→k≠B)(cs:List an):Reads (w4.setCells B 0 cs) lo r nd:=by
 have hk:Kept (·=B) w4 (w4.setCells B 0 cs):=Kept.setCells (S:=(·=B)) (p:=B) rfl cs 0 (Kept.refl _ w4);exact⟨h.num,h.len,(h.data.kept hk (aB _) (fun b hb _ _=>hn b hb)).mono (fun _ h=>h) hk.size,h.nil⟩
theorem om.cells{n:Nat}{w4:aj}{a:Option aV}(h:om n w4 a){B:Nat}(hn:B<n)(cs:List an):om n (w4.setCells B 0 cs) a:=by
 have hk:Kept (·=B) w4 (w4.setCells B 0 cs):=Kept.setCells (S:=(·=B)) (p:=B) rfl cs 0 (Kept.refl _ w4);exact h.kept hk (fun k hk e=>by have e:k=B:=e;omega)
section
variable{X:Nat→Prop}{w0 w:World}{d b:Nat}{root:cP}{at_ cnt:Int}{M:List (cP×Nd)}{who:dW}{v:Value}{L:List cZ}{E:List gh}
theorem dh.lt(D:dh X w0 w d b root at_ cnt M who v L E):d<w.heap.size:=lt_of_block D.blk
theorem dh.sH(D:dh X w0 w d b root at_ cnt M who v L E)(p:cP)(hp:p.length≤1000){nd:Nd}(h:dF p M=some nd):
  aI prog 320 #[.p d,.s p] w fun e w'=>∃r:Raw,e=.returned r.val∧Reads w' (fQ w.heap.size) r nd∧cF w w'∧om w.heap.size w' r.a:=by
 obtain⟨w1,hw1⟩:=cG (w.alloc (.cells #[.n,.U,.U,.U,.I,.U,.V,.V,.V] 44));have de:cF w w1:=by rw[hw1];exact cR (ag _ w) _
 have hs1:w1.heap.size=w.heap.size+1:=by rw[hw1];simp
 have k1:w1.heap[w.heap.size]?=some (.cells #[.n,.U,.U,.U,.I,.U,.V,.V,.V] 44 (0,0)):=by rw[hw1];exact aa w _
 have c0:w1.cell? ⟨d,0,none⟩=some (.p b):=(de.cell (p:=⟨d,0,none⟩) D.lt).trans D.c0;have hg:=(D.tree.below de).get p (by unfold bq;omega);rw[h] at hg;have HG:=cE hg;have H1:=cE (cD de (cD hs1 (cD k1 hw1)));have eY:Hid (cH 44 9):=cE cK;clear D hg h de hs1 k1 hw1;go_enter func320,ntmps320
 go_wp2_with (rw[←H1.out.2.2.2])
 refine HG.out.mono ?_;rintro e w2 ⟨r,rfl,hrd,B2,hfree⟩;obtain⟨ra,rn,rc,⟨r1,r2,r3,r4,r5,r6,r7,r8⟩⟩:=r;unfold Raw.val Raw.cells eL.cells;dsimp only[Option.isSome_some,bB] at hrd⊢;obtain⟨w3,kz⟩:=cG (w2.alloc (.cells #[.slice ra rn rc,.u r1,.u r2,.u r3,.i r4,.u r5,.v r6,.v r7,.v r8] 44));have eE:cF w2 w3:=by rw[kz];exact cR (ag _ w2) _
 have ED:w3.rangeAt w2.heap.size 0 [.slice ra rn rc,.u r1,.u r2,.u r3,.i r4,.u r5,.v r6,.v r7,.v r8]:=by rw[kz];exact yG w2 [.slice ra rn rc,.u r1,.u r2,.u r3,.i r4,.u r5,.v r6,.v r7,.v r8] 44
 have iI:cF w1 w3:=B2.trans (eE.mono B2.size);have LM:w3.there w.heap.size 0 9:=tZ ((iI.block _ (by have:=H1.out.2.1;omega)).trans H1.out.2.2.1);have H3:=cE (cD ED (cD LM (cD iI (cD hrd (cD hfree (cD eE kz))))));clear ED LM iI hrd hfree B2 eE kz;have gu:Hid ((#[.slice ra rn rc,.u r1,.u r2,.u r3,.i r4,.u r5,.v r6,.v r7,.v r8]:Array an).all (·.oneCell')=true):=cE (by simp[au]);go_wp2_with (rw[←H3.out.2.2.2.2.2.2])
 refine(vZ 31 w3).mono ?_;rintro e w4 ⟨rfl,rfl⟩;go_wp2_with (first
  |(refine aA rfl 44 (.tmp 5) rfl w2.heap.size 0 rfl [.slice ra rn rc,.u r1,.u r2,.u r3,.i r4,.u r5,.v r6,.v r7,.v r8] _ H3.out.1 underlying44 rfl eY.out ?_)
  |(refine aC rfl 44 (.tmp 4) (.tmp 18) rfl w.heap.size 0 #[.slice ra rn rc,.u r1,.u r2,.u r3,.i r4,.u r5,.v r6,.v r7,.v r8] rfl rfl H3.out.2.1 eY.out gu.out ?_))
 refine aJ (di rfl _ _ w.heap.size 0 [.slice ra rn rc,.u r1,.u r2,.u r3,.i r4,.u r5,.v r6,.v r7,.v r8] _ rfl (ah _ _ _ _ H3.out.2.1) underlying44 rfl eY.out) rfl ?_;obtain⟨_,_,g3,g4,g5,g6,_⟩:=H3.out;have hs1:=H1.out.2.1;refine⟨⟨ra,rn,rc,⟨r1,r2,r3,r4,r5,r6,r7,r8⟩⟩,rfl,?_,?_,?_⟩
 ·exact((g4.below g6).cells (fun k hk e=>by have hk:w1.heap.size≤k:=hk;omega) _).mono (fun k hk=>by have hk:w1.heap.size≤k:=hk;show w.heap.size≤k;omega)
 ·exact mc (H1.out.1.trans (g3.mono H1.out.1.size)) (aB _) _
 exact((g5.below g6).cells cL _).mono cL
theorem dh.xY(D:dh X w0 w d b root at_ cnt M who v L E)(p:cP)(hp:p.length≤1000)(h:dF p M=none):
  aI prog 320 #[.p d,.s p] w fun e w'=>e=fH 31∧cF w w':=by
 obtain⟨w1,hw1⟩:=cG (w.alloc (.cells #[.n,.U,.U,.U,.I,.U,.V,.V,.V] 44));have de:cF w w1:=by rw[hw1];exact cR (ag _ w) _
 have c0:w1.cell? ⟨d,0,none⟩=some (.p b):=(de.cell (p:=⟨d,0,none⟩) D.lt).trans D.c0;have hg:=(D.tree.below de).get p (by unfold bq;omega);rw[h] at hg;have HG:=cE hg;have H1:=cE (cD de hw1);clear D hg h de hw1;go_enter func320,ntmps320
 go_wp2_with (rw[←H1.out.2])
 refine HG.out.mono ?_;rintro e w2 ⟨r,rfl,hrd,B2,hfree⟩;obtain⟨ra,rn,rc,⟨r1,r2,r3,r4,r5,r6,r7,r8⟩⟩:=r;unfold Raw.val Raw.cells eL.cells;dsimp only[Option.isSome_none];have iG:=cE (H1.out.1.trans (B2.mono H1.out.1.size));clear B2 hrd hfree;go_wp2_with fail
 refine(FP 31 _).mono ?_;rintro e w4 ⟨rfl,rfl⟩;unfold fH;go_wp2
 exact⟨rfl,rfl,cR iG.out _⟩
theorem dh.below(D:dh X w0 w d b root at_ cnt M who v L E){w':aj}(hb:cF w w'):dh X w0 w' d b root at_ cnt M who v L E:=
 ⟨D.tree.below hb,(hb.block d D.lt).trans D.blk,⟨lD D.row.own hb,D.row.like.below hb⟩,D.hd,D.inv,D.A8.below hb,fun k h=>aq (D.old k h) hb.size,by
  obtain⟨lo,mb,T,h⟩:=D.nO;exact⟨lo,mb,T.below hb,h⟩⟩
theorem dh.Kl(D:dh X w0 w d b root at_ cnt M who v L E)(r:cV)(hp:r.path.length≤1000){nd:Nd}(h:dF r.path M=some nd)(hv:¬(0≤r.gS∧r.gS≠IntKind.i64.wrap nd.num.gS)):
  aI prog 296 #[.p d,r.val] w fun e w'=>∃r':Raw,e=.returned r'.val∧Reads w' (fQ w.heap.size) r' nd∧cF w w'∧om w.heap.size w' r'.a:=by
 obtain⟨ok,op,oa,on,oc,ov,os,oe,pa,pn,pc⟩:=r;unfold cV.val cV.cells;dsimp only at hp h hv⊢;obtain⟨w1,hw1⟩:=cG ((w.alloc (.cells #[.b ok,.s op,.slice oa on oc,.i ov,.bool os,.bool oe,.slice pa pn pc] 35)).alloc (.cells #[.n,.U,.U,.U,.I,.U,.V,.V,.V] 44));have de:cF w w1:=by rw[hw1];exact cR (cR (ag _ w) _) _
 have hs1:w1.heap.size=w.heap.size+2:=by rw[hw1];simp
 have k0:w1.heap[w.heap.size]?=some (.cells #[.b ok,.s op,.slice oa on oc,.i ov,.bool os,.bool oe,.slice pa pn pc] 35 (0,0)):=by rw[hw1];exact(aK _ _ cN).trans (aa w _)
 have k1:w1.heap[w.heap.size+1]?=some (.cells #[.n,.U,.U,.U,.I,.U,.V,.V,.V] 44 (0,0)):=by
  have:=aa (w.alloc (.cells #[.b ok,.s op,.slice oa on oc,.i ov,.bool os,.bool oe,.slice pa pn pc] 35)) (.cells #[.n,.U,.U,.U,.I,.U,.V,.V,.V] 44);rw[aH] at this;rw[hw1];exact this
 have y1:w1.cell? ⟨w.heap.size,1,none⟩=some (.s op):=af _ _ 1 _ 35 (0,0) k0;have D1:dh X w0 w1 d b root at_ cnt M who v L E:=D.below de;have hg:=D1.sH op hp h;have HG:=cE hg;have H1:=cE (cD de (cD hs1 (cD k0 (cD k1 hw1))));have eY:Hid (cH 44 9):=cE cK;have HV:=cE hv;clear D D1 hg h de hs1 k0 k1 hw1 hv;go_enter func296,ntmps296
 go_wp2_with (rw[←H1.out.2.2.2.2])
 refine HG.out.mono ?_;rintro e w2 ⟨r,rfl,hrd,B2,hfree⟩;obtain⟨ra,rn,rc,⟨r1,r2,r3,r4,r5,r6,r7,r8⟩⟩:=r;unfold Raw.val Raw.cells eL.cells;dsimp only;obtain⟨w3,kz⟩:=cG (w2.alloc (.cells #[.slice ra rn rc,.u r1,.u r2,.u r3,.i r4,.u r5,.v r6,.v r7,.v r8] 44));have eE:cF w2 w3:=by rw[kz];exact cR (ag _ w2) _
 have ED:w3.rangeAt w2.heap.size 0 [.slice ra rn rc,.u r1,.u r2,.u r3,.i r4,.u r5,.v r6,.v r7,.v r8]:=by rw[kz];exact yG w2 [.slice ra rn rc,.u r1,.u r2,.u r3,.i r4,.u r5,.v r6,.v r7,.v r8] 44
 have iI:cF w1 w3:=B2.trans (eE.mono B2.size);have LM:w3.there (w.heap.size+1) 0 9:=tZ ((iI.block _ (by have:=H1.out.2.1;omega)).trans H1.out.2.2.2.1);have y3:w3.cell? ⟨w.heap.size,3,none⟩=some (.i ov):=(iI.cell (p:=⟨w.heap.size,3,none⟩) (by have:=H1.out.2.1;show w.heap.size<_;omega)).trans (af _ _ 3 _ 35 (0,0) H1.out.2.2.1);have z1:w3.cell? ⟨w2.heap.size,1,none⟩=some (.u r1):=ED 1 _ rfl;have pO:r1=nd.num.gS:=by have:=congrArg eL.gS hrd.num;exact this
 have H3:=cE (cD ED (cD LM (cD iI (cD hrd (cD hfree (cD eE kz))))));have HNV:=cE pO;clear ED LM iI hrd hfree B2 eE kz pO;have gu:Hid ((#[.slice ra rn rc,.u r1,.u r2,.u r3,.i r4,.u r5,.v r6,.v r7,.v r8]:Array an).all (·.oneCell')=true):=cE (by simp[au]);obtain⟨wv,hwv⟩:=cG (IntKind.i64.wrap r1);have HWV:=cE hwv;have twv:∀_:True,IntKind.i64.wrap r1=wv:=fun _=>hwv.symm
 clear hwv;by_cases hneg:ov<0
 ·have t1:decide (ov<0)=true:=by simpa using hneg
  clear hneg;go_wp2_with (rw[←H3.out.2.2.2.2.2.2])
  refine(vZ 35 w3).mono ?_;rintro e w4 ⟨rfl,rfl⟩;go_wp2_with (first
   |(refine aA rfl 44 (.tmp 5) rfl w2.heap.size 0 rfl [.slice ra rn rc,.u r1,.u r2,.u r3,.i r4,.u r5,.v r6,.v r7,.v r8] _ H3.out.1 underlying44 rfl eY.out ?_)
   |(refine aC rfl 44 (.tmp 4) (.tmp 22) rfl (w.heap.size+1) 0 #[.slice ra rn rc,.u r1,.u r2,.u r3,.i r4,.u r5,.v r6,.v r7,.v r8] rfl rfl H3.out.2.1 eY.out gu.out ?_))
  refine aJ (di rfl _ _ (w.heap.size+1) 0 [.slice ra rn rc,.u r1,.u r2,.u r3,.i r4,.u r5,.v r6,.v r7,.v r8] _ rfl (ah _ _ _ _ H3.out.2.1) underlying44 rfl eY.out) rfl ?_;obtain⟨_,_,g3,g4,g5,g6,_⟩:=H3.out;have hs1:=H1.out.2.1;refine⟨⟨ra,rn,rc,⟨r1,r2,r3,r4,r5,r6,r7,r8⟩⟩,rfl,?_,?_,?_⟩
  ·exact((g4.below g6).cells (fun k hk e=>by have hk:w1.heap.size≤k:=hk;omega) _).mono (fun k hk=>by have hk:w1.heap.size≤k:=hk;show w.heap.size≤k;omega)
  ·exact mc (H1.out.1.trans (g3.mono H1.out.1.size)) cL _
  exact((g5.below g6).cells cL _).mono cL
 have t1:decide (ov<0)=false:=by simpa using hneg
 have t2:(ov==wv)=true:=by
  have h1:=HV.out;rw[←HNV.out,←HWV.out] at h1;have h2:ov=wv:=Decidable.byContradiction fun hne=>h1 ⟨by omega,hne⟩
  rw[h2];simp
 clear hneg;go_wp2_with (rw[←H3.out.2.2.2.2.2.2])
 refine(vZ 35 w3).mono ?_;rintro e w4 ⟨rfl,rfl⟩;go_wp2_with (first
  |(refine aA rfl 44 (.tmp 5) rfl w2.heap.size 0 rfl [.slice ra rn rc,.u r1,.u r2,.u r3,.i r4,.u r5,.v r6,.v r7,.v r8] _ H3.out.1 underlying44 rfl eY.out ?_)
  |(refine aC rfl 44 (.tmp 4) (.tmp 22) rfl (w.heap.size+1) 0 #[.slice ra rn rc,.u r1,.u r2,.u r3,.i r4,.u r5,.v r6,.v r7,.v r8] rfl rfl H3.out.2.1 eY.out gu.out ?_))
 refine aJ (di rfl _ _ (w.heap.size+1) 0 [.slice ra rn rc,.u r1,.u r2,.u r3,.i r4,.u r5,.v r6,.v r7,.v r8] _ rfl (ah _ _ _ _ H3.out.2.1) underlying44 rfl eY.out) rfl ?_;obtain⟨_,_,g3,g4,g5,g6,_⟩:=H3.out;have hs1:=H1.out.2.1;refine⟨⟨ra,rn,rc,⟨r1,r2,r3,r4,r5,r6,r7,r8⟩⟩,rfl,?_,?_,?_⟩
 ·exact((g4.below g6).cells (fun k hk e=>by have hk:w1.heap.size≤k:=hk;omega) _).mono (fun k hk=>by have hk:w1.heap.size≤k:=hk;show w.heap.size≤k;omega)
 ·exact mc (H1.out.1.trans (g3.mono H1.out.1.size)) cL _
 exact((g5.below g6).cells cL _).mono cL
theorem dh.WG(D:dh X w0 w d b root at_ cnt M who v L E)(r:cV)(hp:r.path.length≤1000){nd:Nd}(h:dF r.path M=some nd)(hv:0≤r.gS∧r.gS≠IntKind.i64.wrap nd.num.gS):
  aI prog 296 #[.p d,r.val] w fun e w'=>e=fH 35∧cF w w':=by
 obtain⟨ok,op,oa,on,oc,ov,os,oe,pa,pn,pc⟩:=r;unfold cV.val cV.cells;dsimp only at hp h hv⊢;obtain⟨w1,hw1⟩:=cG ((w.alloc (.cells #[.b ok,.s op,.slice oa on oc,.i ov,.bool os,.bool oe,.slice pa pn pc] 35)).alloc (.cells #[.n,.U,.U,.U,.I,.U,.V,.V,.V] 44));have de:cF w w1:=by rw[hw1];exact cR (cR (ag _ w) _) _
 have hs1:w1.heap.size=w.heap.size+2:=by rw[hw1];simp
 have k0:w1.heap[w.heap.size]?=some (.cells #[.b ok,.s op,.slice oa on oc,.i ov,.bool os,.bool oe,.slice pa pn pc] 35 (0,0)):=by rw[hw1];exact(aK _ _ cN).trans (aa w _)
 have k1:w1.heap[w.heap.size+1]?=some (.cells #[.n,.U,.U,.U,.I,.U,.V,.V,.V] 44 (0,0)):=by
  have:=aa (w.alloc (.cells #[.b ok,.s op,.slice oa on oc,.i ov,.bool os,.bool oe,.slice pa pn pc] 35)) (.cells #[.n,.U,.U,.U,.I,.U,.V,.V,.V] 44);rw[aH] at this;rw[hw1];exact this
 have y1:w1.cell? ⟨w.heap.size,1,none⟩=some (.s op):=af _ _ 1 _ 35 (0,0) k0;have D1:dh X w0 w1 d b root at_ cnt M who v L E:=D.below de;have hg:=D1.sH op hp h;have HG:=cE hg;have H1:=cE (cD de (cD hs1 (cD k0 (cD k1 hw1))));have eY:Hid (cH 44 9):=cE cK;have HV:=cE hv;clear D D1 hg h de hs1 k0 k1 hw1 hv;go_enter func296,ntmps296
 go_wp2_with (rw[←H1.out.2.2.2.2])
 refine HG.out.mono ?_;rintro e w2 ⟨r,rfl,hrd,B2,hfree⟩;obtain⟨ra,rn,rc,⟨r1,r2,r3,r4,r5,r6,r7,r8⟩⟩:=r;unfold Raw.val Raw.cells eL.cells;dsimp only;obtain⟨w3,kz⟩:=cG (w2.alloc (.cells #[.slice ra rn rc,.u r1,.u r2,.u r3,.i r4,.u r5,.v r6,.v r7,.v r8] 44));have eE:cF w2 w3:=by rw[kz];exact cR (ag _ w2) _
 have ED:w3.rangeAt w2.heap.size 0 [.slice ra rn rc,.u r1,.u r2,.u r3,.i r4,.u r5,.v r6,.v r7,.v r8]:=by rw[kz];exact yG w2 [.slice ra rn rc,.u r1,.u r2,.u r3,.i r4,.u r5,.v r6,.v r7,.v r8] 44
 have iI:cF w1 w3:=B2.trans (eE.mono B2.size);have LM:w3.there (w.heap.size+1) 0 9:=tZ ((iI.block _ (by have:=H1.out.2.1;omega)).trans H1.out.2.2.2.1);have y3:w3.cell? ⟨w.heap.size,3,none⟩=some (.i ov):=(iI.cell (p:=⟨w.heap.size,3,none⟩) (by have:=H1.out.2.1;show w.heap.size<_;omega)).trans (af _ _ 3 _ 35 (0,0) H1.out.2.2.1);have z1:w3.cell? ⟨w2.heap.size,1,none⟩=some (.u r1):=ED 1 _ rfl;have pO:r1=nd.num.gS:=by have:=congrArg eL.gS hrd.num;exact this
 have H3:=cE (cD ED (cD LM (cD iI (cD hrd (cD hfree (cD eE kz))))));have HNV:=cE pO;clear ED LM iI hrd hfree B2 eE kz pO;have gu:Hid ((#[.slice ra rn rc,.u r1,.u r2,.u r3,.i r4,.u r5,.v r6,.v r7,.v r8]:Array an).all (·.oneCell')=true):=cE (by simp[au]);obtain⟨wv,hwv⟩:=cG (IntKind.i64.wrap r1);have HWV:=cE hwv;have twv:∀_:True,IntKind.i64.wrap r1=wv:=fun _=>hwv.symm
 clear hwv;have t1:decide (ov<0)=false:=by
  have:=HV.out.1;simpa using this
 have t2:(ov==wv)=false:=by
  have h1:=HV.out.2;rw[←HNV.out,←HWV.out] at h1;simpa using h1
 have mQ:=cE (H1.out.1.trans (H3.out.2.2.1.mono H1.out.1.size));go_wp2_with (rw[←H3.out.2.2.2.2.2.2])
 refine(FP 35 w3).mono ?_;rintro e w4 ⟨rfl,rfl⟩;unfold fH;go_wp2
 exact⟨rfl,rfl,mQ.out⟩
theorem dh.Si(D:dh X w0 w d b root at_ cnt M who v L E)(r:cV)(hp:r.path.length≤1000)(h:dF r.path M=none):
  aI prog 296 #[.p d,r.val] w fun e w'=>e=fH 31∧cF w w':=by
 obtain⟨ok,op,oa,on,oc,ov,os,oe,pa,pn,pc⟩:=r;unfold cV.val cV.cells;dsimp only at hp h⊢;obtain⟨w1,hw1⟩:=cG ((w.alloc (.cells #[.b ok,.s op,.slice oa on oc,.i ov,.bool os,.bool oe,.slice pa pn pc] 35)).alloc (.cells #[.n,.U,.U,.U,.I,.U,.V,.V,.V] 44));have de:cF w w1:=by rw[hw1];exact cR (cR (ag _ w) _) _
 have hs1:w1.heap.size=w.heap.size+2:=by rw[hw1];simp
 have k0:w1.heap[w.heap.size]?=some (.cells #[.b ok,.s op,.slice oa on oc,.i ov,.bool os,.bool oe,.slice pa pn pc] 35 (0,0)):=by rw[hw1];exact(aK _ _ cN).trans (aa w _)
 have k1:w1.heap[w.heap.size+1]?=some (.cells #[.n,.U,.U,.U,.I,.U,.V,.V,.V] 44 (0,0)):=by
  have:=aa (w.alloc (.cells #[.b ok,.s op,.slice oa on oc,.i ov,.bool os,.bool oe,.slice pa pn pc] 35)) (.cells #[.n,.U,.U,.U,.I,.U,.V,.V,.V] 44);rw[aH] at this;rw[hw1];exact this
 have y1:w1.cell? ⟨w.heap.size,1,none⟩=some (.s op):=af _ _ 1 _ 35 (0,0) k0;have D1:dh X w0 w1 d b root at_ cnt M who v L E:=D.below de;have hg:=D1.xY op hp h;have HG:=cE hg;have H1:=cE (cD de hw1);clear D D1 hg h de hs1 k0 k1 hw1;go_enter func296,ntmps296
 go_wp2_with (rw[←H1.out.2])
 refine HG.out.mono ?_;rintro e w2 ⟨rfl,B2⟩;have iG:=cE (H1.out.1.trans (B2.mono H1.out.1.size));clear B2;unfold fH;go_wp2
 exact⟨rfl,rfl,iG.out⟩
end
theorem ei{w1:aj}{B n:Nat}{cs:Array an}{t:aU}(h:w1.heap[B]?=some (.cells cs t (0,0)))(hn:n≤cs.size):w1.there B 0 n:=fun j hj=>by
 refine⟨?_,by simp[aG,h]⟩;rw[ay,af _ _ j _ t (0,0) h,Array.getElem?_eq_getElem cL];rfl
def ez(x:Int)(p:cP)(r:Raw)(ka:Option aV)(kn kc:Nat)(pa:Option aV)(pn pc:Nat):List an:=.i x::.s p::(r.cells++[.slice ka kn kc,.slice pa pn pc])
section
variable{X:Nat→Prop}{w0 w:World}{d b:Nat}{root:cP}{at_ cnt:Int}{M:List (cP×Nd)}{who:dW}{v:Value}{L:List cZ}{E:List gh}
theorem dh.c1(D:dh X w0 w d b root at_ cnt M who v L E):w.cell? ⟨d,1,none⟩=some (.v at_):=af _ _ 1 _ 158 (0,0) D.blk
theorem dh.sw(D:dh X w0 w d b root at_ cnt M who v L E)(p:cP)(hp:p.length≤1000){nd:Nd}(h:dF p M=some nd):
  aI prog 295 #[.p d,.s p] w fun e w'=>∃r:Raw,e=.returned (.agg (ez 0 p r none 0 0 none 0 0).toArray)∧Reads w' (fQ w.heap.size) r nd∧cF w w'∧om w.heap.size w' r.a:=by
 obtain⟨w1,hw1⟩:=cG (w.alloc (.cells #[.I,.z,.n,.U,.U,.U,.I,.U,.V,.V,.V,.n,.n] 47));have de:cF w w1:=by rw[hw1];exact cR (ag _ w) _
 have hs1:w1.heap.size=w.heap.size+1:=by rw[hw1];simp
 have k1:w1.heap[w.heap.size]?=some (.cells #[.I,.z,.n,.U,.U,.U,.I,.U,.V,.V,.V,.n,.n] 47 (0,0)):=by rw[hw1];exact aa w _
 have hg:=(D.below de).sH p hp h;have HG:=cE hg;have H1:=cE (cD de (cD hs1 (cD k1 hw1)));have eY:Hid (cH 47 13):=cE cK;clear D hg h de hs1 k1 hw1;go_enter func295,ntmps295
 go_wp2_with (rw[←H1.out.2.2.2])
 refine HG.out.mono ?_;rintro e w2 ⟨r,rfl,hrd,B2,hfree⟩;obtain⟨ra,rn,rc,⟨r1,r2,r3,r4,r5,r6,r7,r8⟩⟩:=r;unfold Raw.val Raw.cells eL.cells;dsimp only;have ht2:w2.there w.heap.size 0 13:=ei ((B2.block _ (by have:=H1.out.2.1;omega)).trans H1.out.2.2.1) cN;have H2:=cE (cD ht2 (cD B2 (cD hrd hfree)));clear ht2 B2 hrd hfree;have gu:Hid ((#[.I,.s p,.slice ra rn rc,.u r1,.u r2,.u r3,.i r4,.u r5,.v r6,.v r7,.v r8,.n,.n]:Array an).all (·.oneCell')=true):=cE (by simp[au]);go_wp2_with (refine aC rfl 47 (.tmp 4) (.tmp 9) rfl w.heap.size 0 #[.I,.s p,.slice ra rn rc,.u r1,.u r2,.u r3,.i r4,.u r5,.v r6,.v r7,.v r8,.n,.n] rfl rfl H2.out.1 eY.out gu.out ?_)
 refine aJ (di rfl _ _ w.heap.size 0 [.I,.s p,.slice ra rn rc,.u r1,.u r2,.u r3,.i r4,.u r5,.v r6,.v r7,.v r8,.n,.n] _ rfl (ah _ _ _ _ H2.out.1) underlying47 rfl eY.out) rfl ?_;obtain⟨_,g2,g3,g4⟩:=H2.out;have hs1:=H1.out.2.1;refine⟨⟨ra,rn,rc,⟨r1,r2,r3,r4,r5,r6,r7,r8⟩⟩,rfl,?_,?_,?_⟩
 ·exact(g3.cells (fun k hk e=>by have hk:w1.heap.size≤k:=hk;omega) _).mono (fun k hk=>by have hk:w1.heap.size≤k:=hk;show w.heap.size≤k;omega)
 ·exact mc (H1.out.1.trans (g2.mono H1.out.1.size)) (aB _) _
 exact(g4.cells cL _).mono cL
theorem dh.told_none(D:dh X w0 w d b root at_ cnt M who v L E)(p:cP)(hp:p.length≤1000)(h:dF p M=none):
  aI prog 295 #[.p d,.s p] w fun e w'=>e=fH 31∧cF w w':=by
 obtain⟨w1,hw1⟩:=cG (w.alloc (.cells #[.I,.z,.n,.U,.U,.U,.I,.U,.V,.V,.V,.n,.n] 47));have de:cF w w1:=by rw[hw1];exact cR (ag _ w) _
 have hg:=(D.below de).xY p hp h;have HG:=cE hg;have H1:=cE (cD de hw1);clear D hg h de hw1;go_enter func295,ntmps295
 go_wp2_with (rw[←H1.out.2])
 refine HG.out.mono ?_;rintro e w2 ⟨rfl,B2⟩;have iG:=cE (H1.out.1.trans (B2.mono H1.out.1.size));clear B2;unfold fH;go_wp2
 exact⟨rfl,rfl,iG.out⟩
theorem dh.Fo(D:dh X w0 w d b root at_ cnt M who v L E)(hm:dG w)(p:cP)(hp:p.length≤1000)(h:dF (cW p) M=none):
  aI prog 293 #[.p d,.s p] w fun e w'=>e=fH 31∧cF w w':=by
 obtain⟨w1,hw1⟩:=cG (w.alloc (.cells #[.z,.F,.n,.U,.U,.U,.I,.U,.V,.V,.V] 93));have de:cF w w1:=by rw[hw1];exact cR (ag _ w) _
 have HP:=cE (mK w1 (hm.kept de) p hp);have hpl:(cW p).length≤1000:=jW p hp;have HN:Hid (∀w',cF w1 w'→aI prog 320 #[.p d,.string (bs (cW p))] w' fun e w''=>e=fH 31∧cF w' w''):=cE fun w' hb=>(((D.below de).below hb).xY (cW p) hpl h)
 have H1:=cE (cD de hw1);clear D h de hw1 hm;go_enter func293,ntmps293
 go_wp2_with (rw[←H1.out.2])
 refine(HP.out _ (ag _ _)).mono ?_;rintro e w2 ⟨rfl,B2⟩;have iG:=cE B2;clear B2;go_wp2_with fail
 refine(HN.out _ iG.out).mono ?_;rintro e w3 ⟨rfl,B3⟩;have mQ:=cE (H1.out.1.trans ((iG.out.trans (B3.mono iG.out.size)).mono H1.out.1.size));clear B3;unfold fH;go_wp2
 exact⟨rfl,rfl,mQ.out⟩
theorem dh.vC(D:dh X w0 w d b root at_ cnt M who v L E)(hm:dG w)(p:cP)(hp:p.length≤1000){u:Nd}(h:dF (cW p) M=some u):
  aI prog 293 #[.p d,.s p] w fun e w'=>∃r:Raw,e=.returned (cZ.val ⟨cW p,false,r⟩)∧Reads w' (fQ w.heap.size) r (CT u at_)∧cF w w'∧om w.heap.size w' r.a:=by
 obtain⟨w1,hw1⟩:=cG (w.alloc (.cells #[.z,.F,.n,.U,.U,.U,.I,.U,.V,.V,.V] 93));have de:cF w w1:=by rw[hw1];exact cR (ag _ w) _
 have hs1:w1.heap.size=w.heap.size+1:=by rw[hw1];simp
 have k1:w1.heap[w.heap.size]?=some (.cells #[.z,.F,.n,.U,.U,.U,.I,.U,.V,.V,.V] 93 (0,0)):=by rw[hw1];exact aa w _
 have HP:=cE (mK w1 (hm.kept de) p hp);have hpl:(cW p).length≤1000:=jW p hp;have HN:Hid (∀w',cF w1 w'→aI prog 320 #[.p d,.string (bs (cW p))] w' fun e w''=>∃r:Raw,e=.returned r.val∧Reads w'' (fQ w'.heap.size) r u∧cF w' w''∧om w'.heap.size w'' r.a):=cE fun w' hb=>(((D.below de).below hb).sH (cW p) hpl h)
 have hdl:d<w.heap.size:=D.lt;have HD:=cE ((de.cell (p:=⟨d,1,none⟩) D.lt).trans D.c1);have H1:=cE (cD de (cD hs1 (cD k1 hw1)));have eY:Hid (cH 44 9):=cE cK;have Ah:Hid (cH 93 11):=cE cK;clear D h de hs1 k1 hw1 hm;go_enter func293,ntmps293
 go_wp2_with (rw[←H1.out.2.2.2])
 refine(HP.out _ (ag _ _)).mono ?_;rintro e w2 ⟨rfl,B2⟩;have iG:=cE B2;clear B2;go_wp2_with fail
 refine(HN.out _ iG.out).mono ?_;rintro e w3 ⟨r,rfl,hrd,B3,hfree⟩;obtain⟨ra,rn,rc,⟨r1,r2,r3,r4,r5,r6,r7,r8⟩⟩:=r;unfold Raw.val Raw.cells eL.cells;dsimp only;obtain⟨w4,lP⟩:=cG (w3.alloc (.cells #[.slice ra rn rc,.u r1,.u r2,.u r3,.i r4,.u r5,.v r6,.v r7,.v r8] 44));have hb4:cF w3 w4:=by rw[lP];exact cR (ag _ w3) _
 have k4:w4.heap[w3.heap.size]?=some (.cells #[.slice ra rn rc,.u r1,.u r2,.u r3,.i r4,.u r5,.v r6,.v r7,.v r8] 44 (0,0)):=by rw[lP];exact aa w3 _
 have Gf:cF w1 w4:=iG.out.trans ((B3.trans (hb4.mono B3.size)).mono iG.out.size);have hs3:w1.heap.size≤w3.heap.size:=aS iG.out.size B3.size;obtain⟨k2,hk2⟩:=cG (IntKind.u32.wrap (r2+1));have tk:∀_:True,IntKind.u32.wrap (r2+1)=k2:=fun _=>hk2.symm
 have z2:w4.cell? ⟨w3.heap.size,2,none⟩=some (.u r2):=af _ _ 2 _ 44 (0,0) k4;have f2:w4.frozen? ⟨w3.heap.size,2,none⟩=false:=by simp[aG,k4]
 have f8:w4.frozen? ⟨w3.heap.size,8,none⟩=false:=by simp[aG,k4]
 obtain⟨w5,nM⟩:=cG (w4.setCell ⟨w3.heap.size,2,none⟩ (.u k2));have k5:w5.heap[w3.heap.size]?=some (.cells #[.slice ra rn rc,.u r1,.u k2,.u r3,.i r4,.u r5,.v r6,.v r7,.v r8] 44 (0,0)):=by
  rw[nM];simp[aM,aD,k4]
 have kp5:Kept (·=w3.heap.size) w4 w5:=by rw[nM];exact Kept.setCell (S:=(·=w3.heap.size)) (p:=⟨w3.heap.size,2,none⟩) (Kept.refl _ w4) rfl _
 have z8:w5.cell? ⟨w3.heap.size,8,none⟩=some (.v r8):=af _ _ 8 _ 44 (0,0) k5;have g8:w5.frozen? ⟨w3.heap.size,8,none⟩=false:=by simp[aG,k5]
 have zd:w5.cell? ⟨d,1,none⟩=some (.v at_):=(kp5.cell (p:=⟨d,1,none⟩) (by show d<w4.heap.size;have:=Gf.size;have:=H1.out.2.1;omega) (fun e=>by have e:d=w3.heap.size:=e;have:=H1.out.2.1;omega)).trans ((Gf.cell (p:=⟨d,1,none⟩) (by show d<w1.heap.size;have:=H1.out.2.1;omega)).trans HD.out);obtain⟨w6,l6⟩:=cG (w5.setCell ⟨w3.heap.size,8,none⟩ (.v at_));have k6:w6.heap[w3.heap.size]?=some (.cells #[.slice ra rn rc,.u r1,.u k2,.u r3,.i r4,.u r5,.v r6,.v r7,.v at_] 44 (0,0)):=by
  rw[l6];simp[aM,aD,k5]
 have kp6:Kept (·=w3.heap.size) w4 w6:=kp5.trans (by rw[l6];exact Kept.setCell (S:=(·=w3.heap.size)) (p:=⟨w3.heap.size,8,none⟩) (Kept.refl _ w5) rfl _);have RO:w6.rangeAt w3.heap.size 0 [.slice ra rn rc,.u r1,.u k2,.u r3,.i r4,.u r5,.v r6,.v r7,.v at_]:=fun j u hu=>by
  rw[ay,af _ _ j _ 44 (0,0) k6];simpa using hu
 have LL:w6.there w.heap.size 0 11:=ei ((kp6.block _ (by have:=Gf.size;have:=H1.out.2.1;omega) (fun e=>by have:=H1.out.2.1;omega)).trans ((Gf.block _ (by have:=H1.out.2.1;omega)).trans H1.out.2.2.1)) cN;have H6:=cE (cD RO (cD LL (cD kp6 (cD Gf (cD hrd (cD hfree (cD hb4 (cD hs3 hk2))))))));have HW:=cE (cD lP (cD nM l6));have HBS:=cE iG.out.size;clear RO LL kp6 Gf hrd hfree hb4 hs3 hk2 lP nM l6 k4 k5 k6 kp5 B3;have gu:Hid ((#[.string (bs (cW p)),.F,.slice ra rn rc,.u r1,.u k2,.u r3,.i r4,.u r5,.v r6,.v r7,.v at_]:Array an).all (·.oneCell')=true):=cE (by simp[au]);go_wp2_with (first
  |(rw[←HW.out.1])
  |(rw[←HW.out.2.1])
  |(rw[←HW.out.2.2];refine aA rfl 44 (.tmp 6) rfl w3.heap.size 0 rfl [.slice ra rn rc,.u r1,.u k2,.u r3,.i r4,.u r5,.v r6,.v r7,.v at_] _ H6.out.1 underlying44 rfl eY.out ?_)
  |(refine aC rfl 93 (.tmp 4) (.tmp 23) rfl w.heap.size 0 #[.string (bs (cW p)),.F,.slice ra rn rc,.u r1,.u k2,.u r3,.i r4,.u r5,.v r6,.v r7,.v at_] rfl rfl H6.out.2.1 Ah.out gu.out ?_))
 refine aJ (di rfl _ _ w.heap.size 0 [.string (bs (cW p)),.F,.slice ra rn rc,.u r1,.u k2,.u r3,.i r4,.u r5,.v r6,.v r7,.v at_] _ rfl (ah _ _ _ _ H6.out.2.1) underlying93 rfl Ah.out) rfl ?_;obtain⟨_,_,g3,g4,g5,g6,g7,g8,g9⟩:=H6.out;have hs1:=H1.out.2.1;have hs2:=HBS.out;have X8:Kept (·=w3.heap.size) w3 w6:=(Kept.eH g7).trans g3;have pO:=g5.num;refine⟨⟨ra,rn,rc,⟨r1,k2,r3,r4,r5,r6,r7,at_⟩⟩,rfl,?_,?_,?_⟩
 ·have h1:Reads w6 (fQ w2.heap.size) ⟨ra,rn,rc,⟨r1,k2,r3,r4,r5,r6,r7,at_⟩⟩ (CT u at_):=by
   refine⟨?_,g5.len,((g5.data.kept X8 (aB _) (fun b hb hl _ e=>by have e:b=w3.heap.size:=e;omega)).mono (fun _ h=>h) X8.size),g5.nil⟩;unfold CT wG;rw[←pO,g9]
  exact(h1.cells (fun k hk e=>by have hk:w2.heap.size≤k:=hk;omega) _).mono (fun k hk=>by have hk:w2.heap.size≤k:=hk;show w.heap.size≤k;omega)
 ·exact mc (H1.out.1.trans ((g4.trans (g3.below g4.size (fun k e=>by have e:k=w3.heap.size:=e;omega))).mono H1.out.1.size)) (aB _) _
 have hf6:om w2.heap.size w6 ra:=fun ad e=>by
  obtain⟨q1,q2,q3⟩:=g6 ad e;exact⟨q1,aq q2 X8.size,fun j=>(X8.frozen (p:=⟨ad.block,j,none⟩) q2 (fun e=>by have e:ad.block=w3.heap.size:=e;omega)).trans (q3 j)⟩
 exact(hf6.cells cL _).mono cL
end
theorem eB.ou{w w':aj}{lo:Nat→Prop}{hi b:Nat}{a:Option aV}{D:cP}(h:eB w lo hi a D){cs:Array an}{t:aU}{fr:Nat×Nat}(hb:w.heap[b]?=some (.cells cs t fr))(hu:∀x∈cs.toList,∀n,x≠.b n)(hk:Kept (·=b) w w')(hw:hi≤w.heap.size):eB w' lo hi a D:=fun j c hj=>by
 obtain⟨g,off,h1,h2,h3,h4⟩:=h j c hj;refine⟨g,off,h1,h2,h3,(hk.cell (p:=⟨g,off+j,none⟩) (aq h3 hw) (fun e=>?_)).trans h4⟩;have e:g=b:=e;subst e;rw[af _ _ (off+j) _ t fr hb] at h4;exact hu _ (by simpa using Array.mem_of_getElem? h4) _ rfl
theorem eV.ou{w w':aj}{lo:Nat→Prop}{b:Nat}{L:List cZ}{E:List gh}(h:eV w lo L E){cs:Array an}{t:aU}{fr:Nat×Nat}(hb:w.heap[b]?=some (.cells cs t fr))(hu:∀x∈cs.toList,∀n,x≠.b n)(hk:Kept (·=b) w w'):eV w' lo L E:=⟨h.1,fun k r e h1 h2=>by
 obtain⟨g1,g2,g3⟩:=h.2 k r e h1 h2;exact⟨g1,g2,g3.num,g3.len,(g3.data.ou hb hu hk (aB _)).mono (fun _ h=>h) hk.size,g3.nil⟩⟩
theorem eV.dP{w w':aj}{S lo:Nat→Prop}{L:List cZ}{E:List gh}(h:eV w lo L E)(hk:Kept S w w')(hn:∀b,lo b→¬S b):eV w' lo L E:=⟨h.1,fun k r e h1 h2=>by
 obtain⟨g1,g2,g3⟩:=h.2 k r e h1 h2;exact⟨g1,g2,g3.num,g3.len,(g3.data.kept hk (aB _) (fun b hb _ _=>hn b hb)).mono (fun _ h=>h) hk.size,g3.nil⟩⟩
theorem eV.both{w:aj}{lo lo':Nat→Prop}{L:List cZ}{E:List gh}(h:eV w lo L E)(hl:∀k,lo k→k<w.heap.size→lo' k):eV w lo' L E:=⟨h.1,fun k r e h1 h2=>by
 obtain⟨g1,g2,g3⟩:=h.2 k r e h1 h2;exact⟨g1,g2,g3.num,g3.len,fun j c hj=>by
  obtain⟨b,off,q1,q2,q3,q4⟩:=g3.data j c hj;exact⟨b,off,q1,hl b q2 q3,q3,q4⟩,g3.nil⟩⟩
theorem eV.append{w:aj}{lo:Nat→Prop}{L L2:List cZ}{E E2:List gh}(h:eV w lo L E)(h2:eV w lo L2 E2):eV w lo (L++L2) (E++E2):=⟨by rw[aP,aP,h.1,h2.1],fun k r e h3 h4=>by
 have hl:=h.1;by_cases hk:k<L.length
 ·rw[aR hk] at h3
  rw[aR cL] at h4;exact h.2 k r e h3 h4
 ·rw[aQ cL] at h3
  rw[aQ cL,←hl] at h4;exact h2.2 (k - L.length) r e h3 h4⟩
theorem fm{w w':aj}{S:Nat→Prop}{base size n:Nat}{e:aU}{v:an}{xs:List an}(h:w.ownsRow base e size v n xs)(hk:Kept S w w')(hn:∀g,v.ownBlock=some g→¬S g):w'.ownsRow base e size v n xs:=by
 refine⟨h.1,?_⟩;rcases h.2 with h1|⟨g,cap,cur,h1,h2,h3,h4⟩
 ·exact .inl h1
 exact .inr ⟨g,cap,cur,h1,h2,(hk.block g (lt_of_block h3) (hn g (by rw[h1];rfl))).trans h3,h4⟩
theorem iU{w:aj}{base size n:Nat}{e t:aU}{v:an}{xs:List an}(h:w.ownsRow base e size v n xs){b:Nat}{cs:Array an}{fr:Nat×Nat}(hb:w.heap[b]?=some (.cells cs t fr))(ht:t≠e):v.ownBlock≠some b:=fun e1=>by
 rcases h.2 with ⟨h1,_⟩|⟨g,cap,cur,h1,h2,h3,h4⟩
 ·rw[h1] at e1;cases e1
 ·rw[h1] at e1
  have:g=b:=by cases e1;rfl
  subst this;rw[hb] at h3;cases h3;exact ht rfl
theorem KY(R:List cZ):∀u∈R.flatMap cZ.cells,u.oneCell'=true:=fun u hu=>by
 obtain⟨r,_,h⟩:=List.mem_flatMap.1 hu;obtain⟨p,g,a,n,c,v1,v2,v3,v4,v5,v6,v7,v8⟩:=r;simp[cZ.cells,Raw.cells,eL.cells] at h;rcases h with rfl|rfl|rfl|rfl|rfl|rfl|rfl|rfl|rfl|rfl|rfl<;>rfl
theorem ES:∀R:List cZ,(R.flatMap cZ.cells).length=R.length*11
 |[]=>rfl
 |x::R=>by
  rw[bF,aP,lY,ES R,List.length_cons];omega
theorem ET:∀(R:List cZ) (j:Nat) (u:an),(R.flatMap cZ.cells)[j]?=some u→∃k r i,R[k]?=some r∧r.cells[i]?=some u∧j=k*11+i
 |[],j,u,h=>by simp at h
 |x::R,j,u,h=>by
  rw[bF] at h;by_cases hj:j<11
  ·rw[aR (by rw[lY];exact hj)] at h
   exact⟨0,x,j,rfl,h,by omega⟩
  ·rw[aQ (by rw[lY];omega),lY] at h
   obtain⟨k,r,i,h1,h2,h3⟩:=ET R (j - 11) u h;exact⟨k+1,r,i,by simpa using h1,h2,by omega⟩
theorem gC.flat{w:aj}{B b off:Nat}{R:List cZ}(h:gC w B (some ⟨b,off,none⟩) R):∀j u,(R.flatMap cZ.cells)[j]?=some u→w.cell? ((⟨b,off,none⟩:aV).add j)=some u:=fun j u hu=>by
 obtain⟨k,r,i,h1,h2,rfl⟩:=ET R j u hu;obtain⟨b',off',e,_,h4⟩:=h k r h1;cases e;rw[Addr.add_mid,show off+(k*11+i)=off+k*11+i by omega];exact h4 i u h2
section
variable{X:Nat→Prop}{w0 w:World}{d b:Nat}{root:cP}{at_ cnt:Int}{M:List (cP×Nd)}{who:dW}{v:Value}{L:List cZ}{E:List gh}
theorem dh.ne(D:dh X w0 w d b root at_ cnt M who v L E):d≠b:=fun e=>by
 subst e;obtain⟨lo,mb,T,_⟩:=D.nO;have:=T.blk;rw[D.blk] at this;cases this
theorem Sh(x:aV)(a s n:Int)(v:an)(hv:∃p q r,v=.slice p q r):∀y∈(#[Value.pointer (some x),.v a,.i s,.u n,v]:Array an).toList,∀m,y≠.b m:=by
 obtain⟨p,q,r,rfl⟩:=hv;intro y hy m;simp at hy;rcases hy with rfl|rfl|rfl|rfl|rfl<;>simp
theorem OY(s:ByteArray)(a:Int)(mb:Option Nat):∀y∈(#[Value.string s,.v a,.map mb]:Array an).toList,∀m,y≠.b m:=by
 intro y hy m;simp at hy;rcases hy with rfl|rfl|rfl<;>simp
end
structure fo where
 kind:Int
 dn:Nat
 pn:Nat
def fo.bad(i:fo):Bool:=decide (i.kind<1)||decide (7≤i.kind)||decide (0<i.pn)
def fo.long(i:fo):Bool:=decide (64<i.dn)
def gz(kind:Int)(dn:Nat)(P:List fo):Int:=
 if kind<1∨7<kind∨6<P.length∨(decide (kind=7)≠decide (0<P.length)) then 1
 else if P.any fo.bad=true then 1 else if 64<dn∨P.any fo.long=true then 3 else 0
theorem kN{kind:Int}{dn:Nat}{P:List fo}(h:kind<1∨7<kind∨6<P.length∨(decide (kind=7)≠decide (0<P.length))):gz kind dn P=1:=if_pos h
theorem Cp{kind:Int}{dn:Nat}{P:List fo}(h:P.any fo.bad=true):gz kind dn P=1:=by
 unfold gz;split
 ·rfl
 rfl
theorem Jz{kind:Int}{dn:Nat}{Q:List fo}(hk:kind≠7):(gz kind dn Q=1∧fo.bad ⟨kind,dn,Q.length⟩=true)∨(gz kind dn Q=3∧fo.bad ⟨kind,dn,Q.length⟩=false∧fo.long ⟨kind,dn,Q.length⟩=true)∨(gz kind dn Q=0∧fo.bad ⟨kind,dn,Q.length⟩=false∧fo.long ⟨kind,dn,Q.length⟩=false):=by
 by_cases h:kind<1∨7<kind∨0<Q.length
 ·refine .inl ⟨kN ?_,?_⟩
  ·rcases h with h|h|h
   ·exact .inl h
   ·exact .inr (.inl h)
   refine .inr (.inr (.inr ?_));rw[decide_eq_false hk,decide_eq_true h];simp
  unfold fo.bad;rcases h with h|h|h
  ·simp[h]
  ·simp[show 7≤kind by omega]
  simp[h]
 have hQ:Q=[]:=List.eq_nil_of_length_eq_zero cL;subst hQ;have hb:fo.bad ⟨kind,dn,0⟩=false:=by
  unfold fo.bad;simp;omega
 have he:gz kind dn []=if 64<dn then 3 else 0:=by
  unfold gz;rw[if_neg,if_neg cN]
  ·simp
  simp;omega
 by_cases hd:64<dn
 ·exact .inr (.inl ⟨by rw[he,if_pos hd],hb,by simp[fo.long,hd]⟩)
 exact .inr (.inr ⟨by rw[he,if_neg hd],hb,by simp[fo.long];omega⟩)
def Cx(w:aj):Nat→Option aV→List fo→Prop
 |0,_,P=>P=[]
 |n+1,pa,P=>∀(k:Nat) i,P[k]?=some i→∃(b off:Nat) (r:cV) (Q:List fo),pa=some ⟨b,off,none⟩∧b<w.heap.size∧w.rangeAt b (off+k*7) r.cells∧i=⟨r.kind,r.dn,r.pn⟩∧r.pn=Q.length∧r.dn≤bq∧Cx w n r.pa Q
theorem Cx.below{w w':aj}(hb:cF w w'):∀{n:Nat} {pa:Option aV} {P:List fo},Cx w n pa P→Cx w' n pa P
 |0,_,_,h=>h
 |n+1,pa,P,h=>fun k i hk=>by
  obtain⟨b,off,r,Q,h1,h2,h3,h4,h5,h6,h7⟩:=h k i hk;exact⟨b,off,r,Q,h1,aq h2 hb.size,dA h3 hb h2,h4,h5,h6,h7.below hb⟩
def oE(w:aj)(x:Int)(e:aW)(w':aj):Prop:=e=.returned (.i x)∧cF w w'
def YO(w:aj)(pa:Option aV)(P:List fo):Prop:=∀(k:Nat) i,P[k]?=some i→∃(b off:Nat) (r:cV) (Q:List fo),pa=some ⟨b,off,none⟩∧b<w.heap.size∧w.rangeAt b (off+k*7) r.cells∧i=⟨r.kind,r.dn,r.pn⟩∧r.pn=Q.length∧∀w',cF w w'→aI prog 29 #[r.val] w' (oE w' (gz r.kind r.dn Q))
def ahU(w1:aj)(P:List fo)(k:Nat)(wr:aj):Prop:=cF w1 wr∧(P.take k).any fo.bad=false
theorem any_succ{f:fo→Bool}{P:List fo}{k:Nat}{i:fo}(h:P[k]?=some i):(P.take (k+1)).any f=((P.take k).any f||f i):=by
 rw[List.take_add_one,h];simp
theorem Co(w:aj)(r:cV)(P:List fo)(hn:r.pn=P.length)(H:YO w r.pa P)(hdn:r.dn≤bq):
  aI prog 29 #[r.val] w (oE w (gz r.kind r.dn P)):=by
 obtain⟨kind,path,da,dn,dc,gS,seq,mM,pa,pn,pc⟩:=r;unfold cV.val cV.cells;dsimp only at hn H hdn⊢;unfold bq at hdn;obtain⟨w1,hw1⟩:=cG (w.alloc (.cells #[.b kind,.s path,.slice da dn dc,.i gS,.bool seq,.bool mM,.slice pa pn pc] 35));have de:cF w w1:=by rw[hw1];exact cR (ag _ w) _
 have hs1:w.heap.size<w1.heap.size:=by rw[hw1];simp
 have agf:w1.rangeAt w.heap.size 0 [.b kind,.s path,.slice da dn dc,.i gS,.bool seq,.bool mM,.slice pa pn pc]:=fun j u hu=>by
  rw[hw1,ay,af _ _ j _ 35 (0,0) (aa w _)];simpa using hu
 have jk:=cE (cD de agf);have HH:=cE H;have HNP:=cE hn;clear H de agf;obtain⟨lg,hlg⟩:=cG (decide (64<dn));have tl:decide ((64:Int)<(dn:Int))=lg:=by rw[hlg];simp;omega
 by_cases h1:kind<1
 ·have hE:gz kind dn P=1:=kN (.inl h1)
  rw[hE];have t1:decide (kind<1)=true:=by simpa using h1
  clear hE h1 hn hlg;go_enter func29,ntmps29
  go_wp2
  go_ret
  rw[←hw1];exact⟨rfl,jk.out.1⟩
 have t1:decide (kind<1)=false:=by simpa using h1
 by_cases h2:7<kind
 ·have hE:gz kind dn P=1:=kN (.inr (.inl h2))
  rw[hE];have t2:decide ((7:Int)<kind)=true:=by simpa using h2
  clear hE h2 h1 hn hlg;go_enter func29,ntmps29
  go_wp2
  go_ret
  rw[←hw1];exact⟨rfl,jk.out.1⟩
 have t2:decide ((7:Int)<kind)=false:=by simpa using h2
 by_cases h3:6<pn
 ·have hE:gz kind dn P=1:=kN (.inr (.inr (.inl (by rw[←hn];exact h3))))
  rw[hE];have t3:decide ((6:Int)<(pn:Int))=true:=by simp;omega
  clear hE h2 h1 h3 hn hlg;go_enter func29,ntmps29
  go_wp2
  go_ret
  rw[←hw1];exact⟨rfl,jk.out.1⟩
 have t3:decide ((6:Int)<(pn:Int))=false:=by simp;omega
 obtain⟨b7,mL⟩:=cG (decide (kind=7));obtain⟨b0,hb0⟩:=cG (decide (0<pn));have t4:(kind==7)=b7:=by rw[mL];by_cases h:kind=7<;>simp[h]
 have t5:decide (0<pn)=b0:=hb0.symm;by_cases h4:b7=b0
 ·have hne:¬(kind<1∨7<kind∨6<P.length∨(decide (kind=7)≠decide (0<P.length))):=by
   rw[←hn];rintro(h|h|h|h)
   ·exact h1 h
   ·exact h2 h
   ·exact h3 h
   exact h (by rw[←mL,←hb0];exact h4)
  have HNE:=cE hne;have afX:lg=decide (64<dn):=hlg;have HLG:=cE afX;clear hne hn hlg afX mL hb0;subst h4;have N5:pn≤6:=by omega
  clear h1 h2 h3;go_enter func29,ntmps29
  go_wp2
  rw[←hw1];clear hw1;go_loopw [3,39] (fun lv ci wr=>∃k:Nat,k≤pn∧ci=.i k∧lv=.bool (lg||(P.take k).any fo.long)∧Hid (ahU w1 P k wr)) (fun _ ci _=>pn - (intOf ci).toNat)
  case atStart=>exact⟨0,by omega,rfl,by simp,cE ⟨ag _ _,by simp⟩⟩
  obtain⟨k,hk,rfl,rfl,HS⟩:=hrel;by_cases hlt:k<pn
  ·obtain⟨i,hi⟩:∃i,P[k]?=some i:=⟨_,List.getElem?_eq_getElem (by rw[←HNP.out];exact hlt)⟩
   obtain⟨b,off,⟨k',p',da',dn',dc',v',sq',ep',pa',pn',Xa⟩,Q,hpa,gM,eW,hie,hq,Um⟩:=HH.out k i hi;dsimp only at hie hq Um;subst hpa;have hbig:cF w wr:=jk.out.1.trans (HS.out.1.mono (aX hs1));have hc0:wr.cell? ⟨w.heap.size,6,none⟩=some (.slice (some ⟨b,off,none⟩) pn pc):=(HS.out.1.cell (p:=⟨w.heap.size,6,none⟩) hs1).trans (jk.out.2 6 _ rfl);have hr2:=dA eW hbig gM;have mX:Hid (wr.rangeAt b (off+k*7) [.b k',.s p',.slice da' dn' dc',.i v',.bool sq',.bool ep',.slice pa' pn' Xa]):=cE hr2;obtain⟨w2,eS⟩:=cG (wr.alloc (.cells #[.b k',.s p',.slice da' dn' dc',.i v',.bool sq',.bool ep',.slice pa' pn' Xa] 35));have dz:cF wr w2:=by rw[eS];exact cR (ag _ wr) _
   have hx2:w2.rangeAt wr.heap.size 0 [.b k',.s p',.slice da' dn' dc',.i v',.bool sq',.bool ep',.slice pa' pn' Xa]:=fun j u hu=>by
    rw[eS,ay,af _ _ j _ 35 (0,0) (aa wr _)];simpa using hu
   have hl2:wr.heap.size<w2.heap.size:=by rw[eS];simp
   have hcl:=Um w2 (hbig.trans (dz.mono hbig.size));unfold cV.val cV.cells at hcl;dsimp only at hcl;have ahb:Hid (cH 35 7):=cE cK;obtain⟨x,hx⟩:=cG (gz k' dn' Q);rw[←hx] at hcl;have pZ:=cE hcl;have GD:=cE (cD hx2 (cD dz eS));have HI:=cE (cD hi (cD hie (cD hq hx)));have apT:IntKind.i64.wrap ((k:Int)+1)=((k+1:Nat):Int):=by rw[IntWalk.i64_in _ cL];omega
   clear hi hie hq hx Um hcl hbig hr2 eW dz hx2 eS;have Zw:∀f:fo→Bool,(P.take (k+1)).any f=((P.take k).any f||f i):=fun f=>any_succ HI.out.1
   have HSU:=cE Zw;clear Zw;go_wp2_with (first
    |(refine aA rfl 35 (.tmp 41) rfl b (off+k*7) rfl [.b k',.s p',.slice da' dn' dc',.i v',.bool sq',.bool ep',.slice pa' pn' Xa] _ mX.out underlying35 rfl ahb.out ?_)
    |(rw[←GD.out.2.2];refine aA rfl 35 (.tmp 5) rfl wr.heap.size 0 rfl [.b k',.s p',.slice da' dn' dc',.i v',.bool sq',.bool ep',.slice pa' pn' Xa] _ GD.out.1 underlying35 rfl ahb.out ?_))
   refine pZ.out.mono ?_;rintro e w3 ⟨rfl,B3⟩;have y0:w3.cell? ⟨wr.heap.size,0,none⟩=some (.b k'):=(B3.cell (p:=⟨wr.heap.size,0,none⟩) hl2).trans (GD.out.1 0 _ rfl);have eE:cF w1 w3:=HS.out.1.trans ((GD.out.2.1.trans (B3.mono GD.out.2.1.size)).mono HS.out.1.size);have mQ:=cE eE;have hbi:=HI.out.2.1;clear B3 eE;by_cases h7:k'=7
   ·have t7:(k'==7)=true:=by rw[h7];rfl
    have hE:gz kind dn P=1:=Cp (List.any_eq_true.2 ⟨i,bA HI.out.1,by rw[hbi];simp[fo.bad,h7]⟩);have HE:=cE hE;clear hE h7 hbi;go_wp2
    go_ret
    exact⟨by rw[HE.out];rfl,jk.out.1.trans (mQ.out.mono (aX hs1))⟩
   have t7:(k'==7)=false:=by simpa using h7
   have hpart:=Jz (kind:=k') (dn:=dn') (Q:=Q) h7;rw[←HI.out.2.2.2,←HI.out.2.2.1,←hbi] at hpart;clear h7 hbi;rcases hpart with ⟨hx,hb⟩|⟨hx,hb,hl⟩|⟨hx,hb,hl⟩
   ·have hE:gz kind dn P=1:=Cp (List.any_eq_true.2 ⟨i,bA HI.out.1,hb⟩)
    have HE:=cE hE;subst hx;clear hE hb;go_wp2
    go_ret
    exact⟨by rw[HE.out];rfl,jk.out.1.trans (mQ.out.mono (aX hs1))⟩
   ·have GH:=cE (cD hb hl)
    subst hx;clear hb hl;go_wp2
    go_roundw
    case rel=>exact⟨k+1,by omega,by go_num,by rw[HSU.out,GH.out.2];simp,cE ⟨mQ.out,by rw[HSU.out,GH.out.1,HS.out.2];rfl⟩⟩
    case measure=>simp[intOf];omega
   have GH:=cE (cD hb hl);subst hx;clear hb hl;go_wp2
   go_roundw
   case rel=>exact⟨k+1,by omega,by go_num,by rw[HSU.out,GH.out.2];simp,cE ⟨mQ.out,by rw[HSU.out,GH.out.1,HS.out.2];rfl⟩⟩
   case measure=>simp[intOf];omega
  obtain rfl:pn=k:=by omega
  obtain⟨hbe,hnb⟩:=HS.out;rw[bu (by rw[←HNP.out];exact aB _)] at hnb;obtain⟨al,hal⟩:=cG ((lg||(P.take pn).any fo.long));rw[←hal];have hE:gz kind dn P=if al=true then 3 else 0:=by
   rw[bu (by rw[←HNP.out];exact aB _)] at hal;unfold gz;rw[if_neg HNE.out,if_neg (by rw[hnb];simp),hal,HLG.out];simp
  have HE:=cE hE;have VL:=cE hbe;clear hE hal hnb hbe;cases al
  all_goals
   go_wp2
   go_ret
   exact⟨by rw[HE.out];rfl,jk.out.1.trans (VL.out.mono (aX hs1))⟩
 have hE:gz kind dn P=1:=kN (.inr (.inr (.inr (by rw[←hn,←mL,←hb0];exact h4))));rw[hE];have tn:(b7 != b0)=true:=by simpa using h4
 have tn2:(b7==b0)=false:=by simpa using h4
 have hb:b0=!b7:=by cases b7<;>cases b0<;>simp_all
 clear hE h2 h1 h3 h4 hn mL hb0 hlg tn tn2;subst hb;go_enter func29,ntmps29
 go_wp2
 go_ret
 rw[←hw1];exact⟨rfl,jk.out.1⟩
theorem yD:∀(n:Nat) (w:aj) (r:cV) (P:List fo),r.pn=P.length→Cx w n r.pa P→r.dn≤bq→aI prog 29 #[r.val] w (oE w (gz r.kind r.dn P))
 |0,w,r,P,hn,h,hd=>by
  have h:P=[]:=h;subst h;exact Co w r [] hn (fun k i hk=>by simp at hk) hd
 |n+1,w,r,P,hn,h,hd=>Co w r P hn (fun k i hk=>by
   obtain⟨b,off,r',Q,h1,h2,h3,h4,h5,h6,h7⟩:=h k i hk;exact⟨b,off,r',Q,h1,h2,h3,h4,h5,fun w' hb=>yD n w' r' Q h5 (h7.below hb) h6⟩) hd
theorem iR.aac{w:aj}{lo lo':Nat→Prop}(hl:∀k,lo k→k<w.heap.size→lo' k):∀{m:List (cP×Raw)} {M:List (cP×Nd)},iR w lo m M→iR w lo' m M
 |[],[],_=>trivial
 |x::m,y::M,⟨⟨h1,h2⟩,h3⟩=>⟨⟨h1,h2.num,h2.len,fun j c hj=>by
   obtain⟨b,off,q1,q2,q3,q4⟩:=h2.data j c hj;exact⟨b,off,q1,hl b q2 q3,q3,q4⟩,h2.nil⟩,h3.aac hl⟩
theorem dJ.both{w:aj}{lo lo':Nat→Prop}{b mb:Nat}{root:cP}{at_:Int}{M:List (cP×Nd)}(T:dJ w lo b mb root at_ M)(hl:∀k,lo k→k<w.heap.size→lo' k):dJ w lo' b mb root at_ M:=by
 obtain⟨m,h1,h2⟩:=T.map;exact⟨T.blk,m,h1,h2.aac hl⟩
theorem iR.dP{w w':aj}{lo S:Nat→Prop}(hk:Kept S w w')(hn:∀k,lo k→¬S k):∀{m:List (cP×Raw)} {M:List (cP×Nd)},iR w lo m M→iR w' lo m M
 |[],[],_=>trivial
 |x::m,y::M,⟨⟨h1,h2⟩,h3⟩=>⟨⟨h1,h2.num,h2.len,(h2.data.kept hk (aB _) (fun b hb _ _=>hn b hb)).mono (fun _ h=>h) hk.size,h2.nil⟩,h3.dP hk hn⟩
theorem dJ.dP{w w':aj}{lo S:Nat→Prop}{b mb:Nat}{root:cP}{at_:Int}{M:List (cP×Nd)}(T:dJ w lo b mb root at_ M)(hk:Kept S w w')(hn:∀k,lo k→¬S k)(hb:¬S b)(hm:¬S mb):dJ w' lo b mb root at_ M:=by
 obtain⟨m,h1,h2⟩:=T.map;exact⟨hk.same T.blk hb,m,h1.kept hk hm,h2.dP hk hn⟩
theorem dJ.FR{w:aj}{lo:Nat→Prop}{b mb:Nat}{root:cP}{at_:Int}{M:List (cP×Nd)}(T:dJ w lo b mb root at_ M){k:Nat}{cs:Array an}{t:aU}{fr:Nat×Nat}(h:w.heap[k]?=some (.cells cs t fr)):mb≠k:=fun e=>by
 subst e;obtain⟨m,⟨es,c,h1,_⟩,_⟩:=T.map;rw[h] at h1;cases h1
theorem Lh{w:aj}{base size n:Nat}{e:aU}{v:an}{xs:List an}(h:w.ownsRow base e size v n xs){lo:Nat→Prop}{b mb:Nat}{root:cP}{at_:Int}{M:List (cP×Nd)}(T:dJ w lo b mb root at_ M):v.ownBlock≠some mb:=fun e1=>by
 rcases h.2 with ⟨h1,_⟩|⟨g,cap,cur,h1,h2,h3,h4⟩
 ·rw[h1] at e1;cases e1
 ·rw[h1] at e1
  have:g=mb:=by cases e1;rfl
  exact T.FR h3 this.symm
section
variable{X:Nat→Prop}{w0 w:World}{d b:Nat}{root:cP}{at_ cnt:Int}{M:List (cP×Nd)}{who:dW}{v:Value}{L:List cZ}{E:List gh}
def VS(X:Nat→Prop)(w0 w:aj)(d b:Nat)(root:cP)(at_ cnt:Int)(M':List (cP×Nd))(who:dW)(v:an)(L:List cZ)(E:List gh)(e:aW)(w':aj):Prop:=
 e=.returned (.tuple #[])∧(∃v',dh X w0 w' d b root at_ (cnt+1) M' who v' L E∧∀k,v'.ownBlock=some k→v.ownBlock=some k∨w.heap.size≤k)∧Kept (fun k=>k=b∨k=d∨v.ownBlock=some k) w w'
theorem Yy{w1 w2:aj}{lo:Nat→Prop}{uW:Nat}{M':List (cP×Nd)}{v2:an}{Lx:List cZ}{Ex:List gh}{lx:Nat→Prop}(D:dh X w0 w d b root at_ cnt M who v L E)
  (hlo:∀k,lo k→(v.ownBlock≠some k∧k≠d)∧¬X k) (T1:dJ w1 (JM lo w.heap.size) b uW root (cnt+1) M') (K1:Kept (·=b) w w1) (hE:∀e∈Ex,CB e) (hx:dM root M Ex=(0,M'))
  (hL:eV w lx Lx Ex) (hlx:∀k,lx k→v.ownBlock≠some k∧¬X k)
  {nl:Nat} (hnl:nl=L.length+Lx.length) (hown:w2.ownsRow w0.heap.size 93 11 v2 nl (L.flatMap cZ.cells++Lx.flatMap cZ.cells)) (hg:w1.grownBy w2 v.ownBlock) (hw:∀k,v2.ownBlock=some k→v.ownBlock=some k∨w1.heap.size≤k):
  VS X w0 w d b root at_ cnt M' who v (L++Lx) (E++Ex) (.returned (.tuple #[])) (w2.setCell ⟨d,4,none⟩ v2):=by
 subst hnl;have hdb:=D.ne;have hdl:=D.lt;have hvl:∀k,v.ownBlock=some k→k<w.heap.size:=fun k h=>(D.row.own.lt k h).2
 have Zu:v.ownBlock≠some b:=iU D.row.own D.nO.choose_spec.choose_spec.1.blk cM;have Zt:v.ownBlock≠some d:=iU D.row.own D.blk cM;have K2:Kept (fun k=>v.ownBlock=some k) w1 w2:=fT hg;have K3:Kept (·=d) w2 (w2.setCell ⟨d,4,none⟩ v2):=Kept.setCell (S:=(·=d)) (p:=⟨d,4,none⟩) (Kept.refl _ w2) rfl v2;have Xd:w1.ownsRow w0.heap.size 93 11 v L.length (L.flatMap cZ.cells):=fm D.row.own K1 (fun g h e=>Zu (by have e:g=b:=e;rw[←e];exact h));have Vo:w1.heap[d]?=some (.cells #[.p b,.v at_,.i who.site,.u who.n,v] 158 (0,0)):=(K1.block d hdl hdb).trans D.blk;have JD:w2.heap[d]?=some (.cells #[.p b,.v at_,.i who.site,.u who.n,v] 158 (0,0)):=(K2.block d (aq hdl K1.size) Zt).trans Vo;have T1':=T1.both (lo':=fun k=>JM lo w.heap.size k∧k<w1.heap.size) (fun k h1 h2=>⟨h1,h2⟩);have T2:=T1'.dP K2 (fun k hk e=>by
  rcases hk.1 with h|h
  ·exact(hlo k h).1.1 e
  have:=hvl k e;omega) Zu (fun e=>Lh Xd T1 e)
 have T3:=T2.dP K3 (fun k hk e=>by
  have e:k=d:=e;rcases hk.1 with h|h
  ·exact(hlo k h).1.2 e
  omega) (fun e=>hdb e.symm) (T2.FR JD)
 have aj1:v2.ownBlock≠some d:=iU hown JD cM;have gM:cF w0 (w2.setCell ⟨d,4,none⟩ v2):=by
  have h1:cF w0 w1:=D.tree.bl.trans (K1.below D.tree.bl.size (fun k e=>by have e:k=b:=e;rw[e];exact D.tree.hb));have h2:cF w0 w2:=h1.trans (K2.below h1.size (fun k e=>(D.row.own.lt k e).1));exact h2.trans (K3.below h2.size (fun k e=>by have e:k=d:=e;rw[e];exact D.hd))
 have hfit:Fit M':=by have:=D.tree.fit.all hE (root:=root);rw[hx] at this;exact this
 have hinv:Inv root M':=by have:=D.inv.all (E:=Ex);rw[hx] at this;exact this
 obtain⟨a2,m2,c2,qx⟩:∃a m c,v2=.slice a m c:=by
  rcases hown.2 with ⟨h1,_⟩|⟨g,cap,cur,h1,_⟩
  ·exact⟨_,_,_,h1⟩
  exact⟨_,_,_,h1⟩
 obtain⟨a1,m1,c1,sZ⟩:∃a m c,v=.slice a m c:=iA D.row.own |>.elim fun a h=>h.elim fun c h=>⟨a,_,c,h⟩
 have tf:∀y∈(#[Value.string (bs root),.v cnt,.map (some D.nO.choose_spec.choose)]:Array an).toList,∀m,y≠.b m:=OY _ _ _;have l1:eV w1 (fun k=>v.ownBlock≠some k∧¬X k) L E:=D.A8.ou D.nO.choose_spec.choose_spec.1.blk tf K1;have lx1:eV w1 lx Lx Ex:=hL.ou D.nO.choose_spec.choose_spec.1.blk tf K1;have conv:∀{P:Nat→Prop} {L':List cZ} {E':List gh},eV w1 P L' E'→(∀k,P k→v.ownBlock≠some k∧¬X k)→eV (w2.setCell ⟨d,4,none⟩ v2) (fun k=>v2.ownBlock≠some k∧¬X k) L' E':=fun {P L' E'} h hP=>by
  have g1:=h.both (lo':=fun k=>(v.ownBlock≠some k∧¬X k)∧k<w1.heap.size) (fun k h1 h2=>⟨hP k h1,h2⟩);have g2:=(g1.dP K2 (fun k hk e=>hk.1.1 e)).ou JD (Sh _ _ _ _ _ ⟨a1,m1,c1,sZ⟩) K3;exact g2.both (fun k hk _=>⟨fun e=>by
   rcases hw k e with h|h
   ·exact hk.1.1 h
   have:=hk.2;omega,hk.1.2⟩)
 have hrl:=(conv l1 (fun _ h=>h)).append (conv lx1 hlx);refine⟨rfl,⟨v2,⟨⟨⟨_,_,T3⟩,gM,D.tree.hb,hfit,D.tree.rl,D.tree.hm⟩,?_,⟨?_,hrl.both (fun k h _=>h.1)⟩,D.hd,hinv,hrl,fun k h=>aq (D.old k h) (aS K1.size (aS K2.size K3.size)),⟨_,_,T3,fun k hk=>⟨⟨fun e=>?_,?_⟩,?_⟩⟩⟩,fun k e=>(hw k e).imp id (fun h=>aS K1.size h)⟩,?_⟩
 ·simp[aM,aD,JD]
 ·rw[aP,List.flatMap_append]
  exact fm hown K3 (fun g h e=>aj1 (by have e:g=d:=e;rw[←e];exact h))
 ·rcases hw k e with h|h
  ·rcases hk.1 with h2|h2
   ·exact(hlo k h2).1.1 h
   have:=hvl k h;omega
  have:=hk.2;omega
 ·rcases hk.1 with h|h
  ·exact(hlo k h).1.2
  have h:w.heap.size≤k:=h;omega
 ·intro hX
  have hlt:=D.old k hX;rcases hk.1 with h|h
  ·exact(hlo k h).2 hX
  have h:w.heap.size≤k:=h;omega
 exact((K1.mono (T:=fun k=>k=b∨k=d∨v.ownBlock=some k) (fun k _ e=>.inl e)).trans (K2.mono (fun k _ e=>.inr (.inr e)))).trans (K3.mono (fun k _ e=>.inr (.inl e)))
theorem dh.Gp(D:dh X w0 w d b root at_ cnt M who v L E)(h0:0≤cnt)(h1:cnt≤100000){gb go_ n c:Nat}{Lx:List cZ}{Ex:List gh}{lx:Nat→Prop}{M':List (cP×Nd)}(hn:n=Lx.length)(hA:gC w w.heap.size (some ⟨gb,go_,none⟩) Lx)(EF:gb≠b)
  (hL:eV w lx Lx Ex) (hlx:∀k,lx k→v.ownBlock≠some k∧¬X k) (hE:∀e∈Ex,CB e) (hx:dM root M Ex=(0,M')) (hsz:L.length+n≤1000):
  aI prog 294 #[.p d,.slice (some ⟨gb,go_,none⟩) n c] w (VS X w0 w d b root at_ cnt M' who v (L++Lx) (E++Ex)):=by
 obtain⟨i0,xF,hz0,hz1,hz2⟩:=info_parts uy;obtain⟨lo,mb,T,hlo⟩:=D.nO;have hap:=T.sQ D.tree.max D.tree.fit D.tree.rl h0 cL (some ⟨gb,go_,none⟩) c Lx Ex hL hA hE cL;rw[←hn] at hap;unfold Fj at hap;rw[hx] at hap;dsimp only at hap;rw[if_pos rfl,if_pos rfl] at hap;obtain⟨a1,m1,c1,sZ⟩:∃a m c,v=.slice a m c:=iA D.row.own |>.elim fun a h=>h.elim fun c h=>⟨a,_,c,h⟩
 have q0:=D.c0;have Sd:=cE hap;have HD:=cE (cD D (cD hlo (cD hE (cD hx (cD hL hlx)))));have HA:=cE (cD hA hn);have hs0:w0.heap.size≤w.heap.size:=D.tree.bl.size;have Ab:L.length+n≤bq:=by unfold bq;omega
 have hm2:(L.length+n)*104≤140737488355328:=by omega
 subst sZ;clear T hap D hlo hE hx hL hlx hA hn;go_enter func294,ntmps294
 go_wp2_with fail
 refine Sd.out.mono ?_;rintro e w1 ⟨uW,rfl,T1,K1⟩;have D:=HD.out.1;have Zu:=iU D.row.own D.nO.choose_spec.choose_spec.1.blk (t:=122) cM;have Zt:=iU D.row.own D.blk (t:=158) cM;have Xd:w1.ownsRow w0.heap.size 93 11 (.slice a1 m1 c1) L.length (L.flatMap cZ.cells):=fm D.row.own K1 (fun g h e=>Zu (by have e:g=b:=e;rw[←e];exact h));have Vo:w1.heap[d]?=some (.cells #[.p b,.v at_,.i who.site,.u who.n,.slice a1 m1 c1] 158 (0,0)):=(K1.block d D.lt D.ne).trans D.blk;have q4:w1.cell? ⟨d,4,none⟩=some (.slice a1 m1 c1):=af _ _ 4 _ 158 (0,0) Vo;have hA1:gC w1 w1.heap.size (some ⟨gb,go_,none⟩) Lx:=fun k r hr=>by
  obtain⟨b',off',e,h2,h3⟩:=HA.out.1 k r hr;cases e;exact⟨gb,go_,rfl,aq h2 K1.size,fun j u hu=>(K1.cell (p:=⟨gb,go_+k*11+j,none⟩) h2 EF).trans (h3 j u hu)⟩
 have HC1:=cE hA1.flat;have hfl:(Lx.flatMap cZ.cells).length=n*11:=by rw[ES,HA.out.2]
 have HO:=cE (cD Xd (cD hfl (cD T1 (cD K1 (cD Vo Zt)))));have hs1:w.heap.size≤w1.heap.size:=K1.size;clear D Zu Xd Vo hA1 hfl T1 K1 Zt q0;have hdl:=HD.out.1.lt;go_wp2_with (at_builtin;refine ef rfl (.tmp 14) (.tmp 15) 38 rfl w0.heap.size 93 i0 (.agg #[.z,.F,.n,.U,.U,.U,.I,.U,.V,.V,.V]) 11 104 underlying38 xF hz0 hz1 hz2 rfl cM (.slice a1 m1 c1) L.length (L.flatMap cZ.cells) rfl HO.out.1 ⟨gb,go_,none⟩ n c (Lx.flatMap cZ.cells) rfl HO.out.2.1 HC1.out (KY _) Ab hm2 cL ?_;intro v2 w2 hown2 hgrow2 hwh2;have JD:w2.heap[d]?=some (.cells #[.p b,.v at_,.i who.site,.u who.n,.slice a1 m1 c1] 158 (0,0)):=(hgrow2.block d cL (fun e=>HO.out.2.2.2.2.2 e.symm)).trans HO.out.2.2.2.2.1;have q5:w2.cell? ⟨d,4,none⟩=some (.slice a1 m1 c1):=af _ _ 4 _ 158 (0,0) JD;have f5:w2.frozen? ⟨d,4,none⟩=false:=(by simp[aG,JD]);obtain⟨a2,c2,qx⟩:=iA hown2;subst qx;have H2:=cE (cD hown2 (cD hgrow2 hwh2));clear hown2 hgrow2 hwh2 JD)
 (try simp only[Exit.inBlock,Exit.then])
 refine bodyPost_end (bC rfl _ _ _) rfl ?_;exact Yy HD.out.1 HD.out.2.1 HO.out.2.2.1 HO.out.2.2.2.1 HD.out.2.2.1 HD.out.2.2.2.1 HD.out.2.2.2.2.1 HD.out.2.2.2.2.2 (by rw[HA.out.2]) H2.out.1 H2.out.2.1 H2.out.2.2
end
theorem Kept.Iy{S:Nat→Prop}{a b c:aj}{B:Nat}(h:Kept S a b)(hk:Kept (·=B) b c)(hB:a.heap.size≤B):Kept S a c:=
 ⟨hk.os.trans h.os,hk.tape.trans h.tape,hk.output.trans h.output,aS h.size hk.size,fun i hi hn=>(hk.block i (aq hi h.size) (fun e=>by have e:i=B:=e;omega)).trans (h.block i hi hn)⟩
theorem iR.ou{w w':aj}{lo:Nat→Prop}{b:Nat}{cs:Array an}{t:aU}{fr:Nat×Nat}(hb:w.heap[b]?=some (.cells cs t fr))(hu:∀x∈cs.toList,∀n,x≠.b n)(hk:Kept (·=b) w w'):∀{m:List (cP×Raw)} {M:List (cP×Nd)},iR w lo m M→iR w' lo m M
 |[],[],_=>trivial
 |x::m,y::M,⟨⟨h1,h2⟩,h3⟩=>⟨⟨h1,h2.num,h2.len,(h2.data.ou hb hu hk (aB _)).mono (fun _ h=>h) hk.size,h2.nil⟩,iR.ou hb hu hk h3⟩
theorem dJ.ou{w w':aj}{lo:Nat→Prop}{b mb:Nat}{root:cP}{at_:Int}{M:List (cP×Nd)}(T:dJ w lo b mb root at_ M){B:Nat}{cs:Array an}{t:aU}{fr:Nat×Nat}(hb:w.heap[B]?=some (.cells cs t fr))(hu:∀x∈cs.toList,∀n,x≠.b n)(ht:t≠122)(hk:Kept (·=B) w w'):dJ w' lo b mb root at_ M:=by
 obtain⟨m,h1,h2⟩:=T.map;have hbB:b≠B:=fun e=>by
  subst e;have:=T.blk;rw[hb] at this;cases this;exact ht rfl
 exact⟨hk.same T.blk hbB,m,h1.kept hk (fun e=>T.FR hb e),h2.ou hb hu hk⟩
theorem kC:∀y∈(#[.I,.z,.n,.U,.U,.U,.I,.U,.V,.V,.V,.n,.n]:Array an).toList,∀m,y≠.b m:=by
 intro y hy m;simp at hy;rcases hy with rfl|rfl|rfl|rfl|rfl|rfl|rfl|rfl<;>simp
section
variable{X:Nat→Prop}{w0 w:World}{d b:Nat}{root:cP}{at_ cnt:Int}{M:List (cP×Nd)}{who:dW}{v:Value}{L:List cZ}{E:List gh}
def Y7(n:Nat)(v:an)(k:Nat):Prop:=n≤k∧v.ownBlock≠some k
def gG(w:aj)(lo:Nat→Prop)(a:Option aV)(L:List cP):Prop:=∀k p,L[k]?=some p→∃b off,a=some ⟨b,off,none⟩∧lo b∧b<w.heap.size∧w.cell? ⟨b,off+k,none⟩=some (.s p)
theorem gG.nil(w:aj)(lo:Nat→Prop)(a:Option aV):gG w lo a []:=fun k p h=>by simp at h
theorem gG.dP{w w':aj}{lo S:Nat→Prop}{a:Option aV}{L:List cP}(h:gG w lo a L)(hk:Kept S w w')(hn:∀k,lo k→k<w.heap.size→¬S k):gG w' lo a L:=fun k p hp=>by
 obtain⟨b,off,h1,h2,h3,h4⟩:=h k p hp;exact⟨b,off,h1,h2,aq h3 hk.size,(hk.cell (p:=⟨b,off+k,none⟩) h3 (hn b h2 h3)).trans h4⟩
theorem gG.mono{w:aj}{lo lo':Nat→Prop}{a:Option aV}{L:List cP}(h:gG w lo a L)(hl:∀k,lo k→k<w.heap.size→lo' k):gG w lo' a L:=fun k p hp=>by
 obtain⟨b,off,h1,h2,h3,h4⟩:=h k p hp;exact⟨b,off,h1,hl b h2 h3,h3,h4⟩
theorem gG.sl{w:aj}{lo:Nat→Prop}{a:Option aV}{L:List cP}(h:gG w lo a L):gA w w.heap.size a L:=fun k p hp=>by
 obtain⟨b,off,h1,_,h3,h4⟩:=h k p hp;exact⟨b,off,h1,h3,h4⟩
theorem Reads.monoB{w:aj}{lo lo':Nat→Prop}{r:Raw}{nd:Nd}(h:Reads w lo r nd)(hl:∀k,lo k→k<w.heap.size→lo' k):Reads w lo' r nd:=
 ⟨h.num,h.len,fun j c hj=>by
  obtain⟨b,off,q1,q2,q3,q4⟩:=h.data j c hj;exact⟨b,off,q1,hl b q2 q3,q3,q4⟩,h.nil⟩
structure kQ(X:Nat→Prop)(w0 w:aj)(d b:Nat)(root:cP)(at_ cnt:Int)(M M':List (cP×Nd))(who:dW)(v:an)(E:List gh)(A:JY)(e:aW)(w':aj):Prop where
 ret:∃(v':an) (L':List cZ) (r:Raw) (ka:Option aV) (kc:Nat),e=.returned (.agg (ez 0 A.path r ka A.kids.length kc none 0 0).toArray)∧dh X w0 w' d b root at_ cnt M' who v' L' E∧(∀k,v'.ownBlock=some k→v.ownBlock=some k∨w.heap.size≤k)∧Reads w' (Y7 w.heap.size v') r A.node∧gG w' (Y7 w.heap.size v') ka A.kids
 kept:Kept (fun k=>k=b∨k=d∨v.ownBlock=some k) w w'
theorem dh.iJ(D:dh X w0 w d b root at_ cnt M who v L E){B:Nat}{cs:Array an}{t:aU}{fr:Nat×Nat}(hb:w.heap[B]?=some (.cells cs t fr))(hu:∀x∈cs.toList,∀n,x≠.b n)(h1:t≠122)(h2:t≠93)(h3:t≠158)(hw:w0.heap.size≤B){w':aj}(hk:Kept (·=B) w w'):dh X w0 w' d b root at_ cnt M who v L E:=by
 obtain⟨lo,mb,T,hlo⟩:=D.nO;have T':=T.ou hb hu h1 hk;have hdB:d≠B:=fun e=>by
  subst e;have:=D.blk;rw[hb] at this;cases this;exact h3 rfl
 refine⟨⟨⟨_,_,T'⟩,D.tree.bl.trans (hk.below D.tree.bl.size (fun k e=>by have e:k=B:=e;omega)),D.tree.hb,D.tree.fit,D.tree.rl,D.tree.hm⟩,(hk.block d D.lt hdB).trans D.blk,⟨fm D.row.own hk (fun g hg e=>iU D.row.own hb h2 (by have e:g=B:=e;rw[←e];exact hg)),D.row.like.ou hb hu hk⟩,D.hd,D.inv,D.A8.ou hb hu hk,fun k h=>aq (D.old k h) hk.size,⟨_,_,T',hlo⟩⟩
theorem dh.len(D:dh X w0 w d b root at_ cnt M who v L E):L.length=E.length:=D.row.like.1
theorem dh.aaR(D:dh X w0 w d b root at_ cnt M who v L E)(h0:0≤cnt)(h1:cnt≤100000)(hsz:E.length≤900)(r:cV)(o:eC){lo:Nat→Prop}(hr:eZ w lo r o)(hlo:∀k,lo k→v.ownBlock≠some k∧¬X k)(hp:o.path.length≤1000)(hdl:o.data.length≤1000000)(hv:mF M o=0):
  aI prog 257 #[.p d,r.val] w (kQ X w0 w d b root at_ (cnt+1) M (KF M at_ o) who v (E++zV M at_ o) ⟨o.path,CY (nodeAt M o.path) o.data at_,[]⟩):=by
 obtain⟨nd,hnd,TT⟩:=jT hv;have ZO:=Hf (at_:=at_) D.inv hv;obtain⟨ok,op,oa,on,oc,ov,os,oe,pa,pn,pc⟩:=r;obtain⟨J2,V3,gj,over,sV,sW⟩:=o;obtain⟨q1,q2,q3,q4,q5,q6,q7,q8⟩:=hr;dsimp only at q1 q2 q3 q4 q5 q6 q7 q8 hp hdl TT hnd;subst q1 q2 q3 q4 q5;unfold cV.val cV.cells;dsimp only;obtain⟨w1,hw1⟩:=cG ((w.alloc (.cells #[.b ok,.s op,.slice oa on oc,.i ov,.bool os,.bool oe,.slice pa pn pc] 35)).alloc (.cells #[.I,.z,.n,.U,.U,.U,.I,.U,.V,.V,.V,.n,.n] 47));have de:cF w w1:=by rw[hw1];exact cR (cR (ag _ w) _) _
 have hs1:w1.heap.size=w.heap.size+2:=by rw[hw1];simp
 have k0:w1.heap[w.heap.size]?=some (.cells #[.b ok,.s op,.slice oa on oc,.i ov,.bool os,.bool oe,.slice pa pn pc] 35 (0,0)):=by rw[hw1];exact(aK _ _ cN).trans (aa w _)
 have k1:w1.heap[w.heap.size+1]?=some (.cells #[.I,.z,.n,.U,.U,.U,.I,.U,.V,.V,.V,.n,.n] 47 (0,0)):=by
  have:=aa (w.alloc (.cells #[.b ok,.s op,.slice oa on oc,.i ov,.bool os,.bool oe,.slice pa pn pc] 35)) (.cells #[.I,.z,.n,.U,.U,.U,.I,.U,.V,.V,.V,.n,.n] 47);rw[aH] at this;rw[hw1];exact this
 have kU:w1.rangeAt w.heap.size 0 [.b ok,.s op,.slice oa on oc,.i ov,.bool os,.bool oe,.slice pa pn pc]:=fun j u hu=>by
  rw[ay,af _ _ j _ 35 (0,0) k0];simpa using hu
 have hg:=(D.below de).Kl ⟨ok,op,oa,on,oc,ov,os,oe,pa,pn,pc⟩ hp hnd TT;unfold cV.val cV.cells at hg;dsimp only at hg;have HG:=cE hg;have akK:=D.lt;have HD:=cE (cD D (cD ZO (cD q7 (cD q8 (cD hlo (cD hnd (cD q6 hv)))))));have H1:=cE (cD de (cD hs1 (cD k0 (cD k1 (cD hw1 kU)))));have eY:Hid (cH 44 9):=cE cK;have qP:Hid (cH 35 7):=cE cK;have mg:Hid (cH 47 13):=cE cK;have asa:=cE q6;clear D ZO q7 q8 hlo hnd TT hv hg de hs1 k0 k1 hw1 kU q6;go_enter func257,ntmps257
 go_wp2_with (rw[←H1.out.2.2.2.2.1];refine aA rfl 35 (.tmp 3) rfl w.heap.size 0 rfl [.b ok,.s op,.slice oa on oc,.i ov,.bool os,.bool oe,.slice pa pn pc] _ H1.out.2.2.2.2.2 underlying35 rfl qP.out ?_)
 refine HG.out.mono ?_;rintro e w2 ⟨r,rfl,hrd,B2,hfree⟩;obtain⟨ra,rn,rc,⟨r1,r2,r3,r4,r5,r6,r7,r8⟩⟩:=r;unfold Raw.val Raw.cells eL.cells;dsimp only;obtain⟨de,hs1,k0,k1,_,_⟩:=H1.out;obtain⟨w3,kz⟩:=cG (w2.alloc (.cells #[.slice ra rn rc,.u r1,.u r2,.u r3,.i r4,.u r5,.v r6,.v r7,.v r8] 44));have eE:cF w2 w3:=by rw[kz];exact cR (ag _ w2) _
 have k3:w3.heap[w2.heap.size]?=some (.cells #[.slice ra rn rc,.u r1,.u r2,.u r3,.i r4,.u r5,.v r6,.v r7,.v r8] 44 (0,0)):=by rw[kz];exact aa w2 _
 have iI:cF w1 w3:=B2.trans (eE.mono B2.size);have afq:=B2.size;obtain⟨kv,hkv⟩:=cG (IntKind.u32.wrap (r1+1));have tk:∀_:True,IntKind.u32.wrap (r1+1)=kv:=fun _=>hkv.symm
 have z1:w3.cell? ⟨w.heap.size,2,none⟩=some (.slice oa on oc):=(iI.cell (p:=⟨w.heap.size,2,none⟩) (by show w.heap.size<w1.heap.size;omega)).trans (af _ _ 2 _ 35 (0,0) k0);have z2:w3.cell? ⟨w2.heap.size,0,none⟩=some (.slice ra rn rc):=af _ _ 0 _ 44 (0,0) k3;have f2:w3.frozen? ⟨w2.heap.size,0,none⟩=false:=by simp[aG,k3]
 obtain⟨w4,lP⟩:=cG (w3.setCell ⟨w2.heap.size,0,none⟩ (.slice oa on oc));have k4:w4.heap[w2.heap.size]?=some (.cells #[.slice oa on oc,.u r1,.u r2,.u r3,.i r4,.u r5,.v r6,.v r7,.v r8] 44 (0,0)):=by
  rw[lP];simp[aM,aD,k3]
 have p4:Kept (·=w2.heap.size) w3 w4:=by rw[lP];exact Kept.setCell (S:=(·=w2.heap.size)) (p:=⟨w2.heap.size,0,none⟩) (Kept.refl _ w3) rfl _
 have z3:w4.cell? ⟨w2.heap.size,1,none⟩=some (.u r1):=af _ _ 1 _ 44 (0,0) k4;have f3:w4.frozen? ⟨w2.heap.size,1,none⟩=false:=by simp[aG,k4]
 obtain⟨w5,nM⟩:=cG (w4.setCell ⟨w2.heap.size,1,none⟩ (.u kv));have k5:w5.heap[w2.heap.size]?=some (.cells #[.slice oa on oc,.u kv,.u r2,.u r3,.i r4,.u r5,.v r6,.v r7,.v r8] 44 (0,0)):=by
  rw[nM];simp[aM,aD,k4]
 have p5:Kept (·=w2.heap.size) w3 w5:=p4.trans (by rw[nM];exact Kept.setCell (S:=(·=w2.heap.size)) (p:=⟨w2.heap.size,1,none⟩) (Kept.refl _ w4) rfl _);have z4:w5.cell? ⟨w2.heap.size,7,none⟩=some (.v r7):=af _ _ 7 _ 44 (0,0) k5;have f4:w5.frozen? ⟨w2.heap.size,7,none⟩=false:=by simp[aG,k5]
 have zd:w5.cell? ⟨d,1,none⟩=some (.v at_):=(p5.cell (p:=⟨d,1,none⟩) (by show d<w3.heap.size;have:=iI.size;omega) (fun e=>by have e:d=w2.heap.size:=e;omega)).trans ((iI.cell (p:=⟨d,1,none⟩) (by show d<w1.heap.size;omega)).trans ((de.cell (p:=⟨d,1,none⟩) akK).trans HD.out.1.c1));have oO:cF w1 w5:=iI.trans (p5.below iI.size (fun k e=>by have e:k=w2.heap.size:=e;omega));have z6:w5.cell? ⟨w.heap.size,1,none⟩=some (.s op):=(oO.cell (p:=⟨w.heap.size,1,none⟩) (by show w.heap.size<w1.heap.size;omega)).trans (af _ _ 1 _ 35 (0,0) k0);clear oO;obtain⟨w6,l6⟩:=cG (w5.setCell ⟨w2.heap.size,7,none⟩ (.v at_));have k6:w6.heap[w2.heap.size]?=some (.cells #[.slice oa on oc,.u kv,.u r2,.u r3,.i r4,.u r5,.v r6,.v at_,.v r8] 44 (0,0)):=by
  rw[l6];simp[aM,aD,k5]
 have p6:Kept (·=w2.heap.size) w3 w6:=p5.trans (by rw[l6];exact Kept.setCell (S:=(·=w2.heap.size)) (p:=⟨w2.heap.size,7,none⟩) (Kept.refl _ w5) rfl _);have RO:w6.rangeAt w2.heap.size 0 [.slice oa on oc,.u kv,.u r2,.u r3,.i r4,.u r5,.v r6,.v at_,.v r8]:=fun j u hu=>by
  rw[ay,af _ _ j _ 44 (0,0) k6];simpa using hu
 have Ur:cF w1 w6:=iI.trans (p6.below iI.size (fun k e=>by have e:k=w2.heap.size:=e;omega));have z5:w6.cell? ⟨w.heap.size,1,none⟩=some (.s op):=(Ur.cell (p:=⟨w.heap.size,1,none⟩) (by show w.heap.size<w1.heap.size;omega)).trans (af _ _ 1 _ 35 (0,0) k0);obtain⟨w7,nY⟩:=cG (w6.alloc (.cells #[.s op,.F,.slice oa on oc,.u kv,.u r2,.u r3,.i r4,.u r5,.v r6,.v at_,.v r8] 93));have Yj:cF w6 w7:=by rw[nY];exact cR (ag _ w6) _
 have ab9:cF w1 w7:=Ur.trans (Yj.mono Ur.size);have mL:cF w w7:=de.trans (ab9.mono de.size);have D7:=HD.out.1.below mL;have pO:=hrd.num;have afA:kP w7 lo ⟨op,false,⟨oa,on,oc,⟨kv,r2,r3,r4,r5,r6,at_,r8⟩⟩⟩ ⟨op,false,CY (nodeAt M op) gj at_⟩:=by
  refine⟨rfl,rfl,?_,HD.out.2.2.2.2.2.2.1,(HD.out.2.2.1.below mL).mono (fun _ h=>h) mL.size,HD.out.2.2.2.1⟩;unfold CY nodeAt wG;rw[HD.out.2.2.2.2.2.1];dsimp only[bB];rw[←pO,hkv]
 have EG:=D7.Gp h0 h1 (gb:=w6.heap.size) (go_:=0) (n:=1) (c:=1) (Lx:=[⟨op,false,⟨oa,on,oc,⟨kv,r2,r3,r4,r5,r6,at_,r8⟩⟩⟩]) (Ex:=zV M at_ ⟨ok,op,gj,ov,os,oe⟩) rfl (by rw[nY];exact UT w6 ⟨op,false,⟨oa,on,oc,⟨kv,r2,r3,r4,r5,r6,at_,r8⟩⟩⟩) (by have h2:=HD.out.1.tree.lt;have h3:=Ur.size;omega) (IM afA) HD.out.2.2.2.2.1 (by intro x hx;simp[zV] at hx;subst hx;exact⟨hp,hdl⟩) HD.out.2.1 (by have:=HD.out.1.len;omega);have Y2:=cE EG;have H7:=cE (cD RO (cD mL (cD ab9 (cD afq (cD de hs1)))));have HW:=cE (cD kz (cD lP (cD nM (cD l6 nY))));clear EG RO mL ab9 Yj Ur p6 p5 p4 iI eE kz lP nM l6 nY k3 k4 k5 k6 afA D7 hrd B2 hfree pO hkv de hs1 k0 k1 afq;go_wp2_with (first
  |(rw[←HW.out.1])
  |(rw[←HW.out.2.1])
  |(rw[←HW.out.2.2.1])
  |(rw[←HW.out.2.2.2.1];refine aA rfl 44 (.tmp 5) rfl w2.heap.size 0 rfl [.slice oa on oc,.u kv,.u r2,.u r3,.i r4,.u r5,.v r6,.v at_,.v r8] _ H7.out.1 underlying44 rfl eY.out ?_))
 rw[←HW.out.2.2.2.2];refine Y2.out.mono ?_;rintro e w8 ⟨rfl,⟨v8,D8,G8⟩,K8⟩;have iQ:b<w.heap.size:=HD.out.1.tree.lt;have hvl:∀k,v.ownBlock=some k→k<w.heap.size:=fun k h=>(HD.out.1.row.own.lt k h).2
 have hnk:∀k,w.heap.size≤k→¬(k=b∨k=d∨v.ownBlock=some k):=fun k hk h=>by
  rcases h with h|h|h
  ·omega
  ·omega
  have:=hvl k h;omega
 have afp:w1.heap.size≤w7.heap.size:=H7.out.2.2.1.size;have hs1:=H7.out.2.2.2.2.2;have z7:w8.cell? ⟨w.heap.size,1,none⟩=some (.s op):=(K8.cell (p:=⟨w.heap.size,1,none⟩) (by show w.heap.size<w7.heap.size;omega) (hnk _ (aB _))).trans ((H7.out.2.2.1.cell (p:=⟨w.heap.size,1,none⟩) (by show w.heap.size<w1.heap.size;omega)).trans (af _ _ 1 _ 35 (0,0) H1.out.2.2.1));have k8:=(K8.block (w.heap.size+1) cL (hnk _ (bg _))).trans ((H7.out.2.2.1.block (w.heap.size+1) cL).trans H1.out.2.2.2.1);have htl:=D8.sw op hp (nd:=CY (nodeAt M op) gj at_) (by unfold KF;exact kK _ _ _);have HT:=cE htl;have ap4:=K8.size;have H8:=cE (cD D8 (cD K8 (cD k8 (cD hnk G8))));clear htl D8 K8 k8 hnk G8;go_wp2_with fail
 refine HT.out.mono ?_;rintro e w9 ⟨r9,rfl,TZ,B9,Ga⟩;obtain⟨sa,sn,sc,⟨s1,s2,s3,s4,s5,s6,s7,s8⟩⟩:=r9;unfold ez Raw.cells eL.cells;dsimp only[aL,aN];have Zv:w9.there (w.heap.size+1) 0 13:=ei ((B9.block _ cL).trans H8.out.2.2.1) cN;have H9:=cE (cD Zv (cD TZ (cD B9 Ga)));clear Zv TZ B9 Ga;have gu:Hid ((#[.I,.s op,.slice sa sn sc,.u s1,.u s2,.u s3,.i s4,.u s5,.v s6,.v s7,.v s8,.n,.n]:Array an).all (·.oneCell')=true):=cE (by simp[au]);go_wp2_with (refine aC rfl 47 (.tmp 4) (.tmp 31) rfl (w.heap.size+1) 0 #[.I,.s op,.slice sa sn sc,.u s1,.u s2,.u s3,.i s4,.u s5,.v s6,.v s7,.v s8,.n,.n] rfl rfl H9.out.1 mg.out gu.out ?_)
 refine aJ (di rfl _ _ (w.heap.size+1) 0 [.I,.s op,.slice sa sn sc,.u s1,.u s2,.u s3,.i s4,.u s5,.v s6,.v s7,.v s8,.n,.n] _ rfl (ah _ _ _ _ H9.out.1) underlying47 rfl mg.out) rfl ?_;obtain⟨_,g2,g3,_⟩:=H9.out;have K9:Kept (·=w.heap.size+1) w9 (w9.setCells (w.heap.size+1) 0 [.I,.s op,.slice sa sn sc,.u s1,.u s2,.u s3,.i s4,.u s5,.v s6,.v s7,.v s8,.n,.n]):=Kept.setCells (S:=(·=w.heap.size+1)) (p:=w.heap.size+1) rfl _ 0 (Kept.refl _ w9);have CI:Kept (fun k=>k=b∨k=d∨v.ownBlock=some k) w w8:=(Kept.eH (S:=fun k=>k=b∨k=d∨v.ownBlock=some k) H7.out.2.1).trans H8.out.2.1;have Wk:=(g3.block (w.heap.size+1) cL).trans H8.out.2.2.1;have D9:=(H8.out.1.below g3).iJ Wk kC cM cM cM (by have:=HD.out.1.tree.bl.size;omega) K9;have QF:=H7.out.2.1.size;refine⟨⟨v8,_,⟨sa,sn,sc,⟨s1,s2,s3,s4,s5,s6,s7,s8⟩⟩,none,0,rfl,D9,?_,?_,gG.nil _ _ _⟩,?_⟩
 ·intro k hk
  rcases H8.out.2.2.2.2 k hk with h|h
  ·exact .inl h
  exact .inr cL
 ·refine(g2.cells (fun k hk e=>by have hk:w8.heap.size≤k:=hk;omega) _).mono (fun k hk=>?_)
  have hk:w8.heap.size≤k:=hk;refine⟨by omega,fun e=>?_⟩;have:=(H8.out.1.row.own.lt k e).2;omega
 exact(CI.trans (Kept.eH g3)).Iy K9 cL
def mB(w:aj)(x:Int)(e:aW)(w':aj):Prop:=e=fH x∧cF w w'
theorem dh.Fk(D:dh X w0 w d b root at_ cnt M who v L E)(r:cV)(o:eC)(h1:r.path=o.path)(h2:r.gS=o.gS)(hp:o.path.length≤1000){x:Int}(hx:mF M o=x)(h0:x≠0):
  aI prog 296 #[.p d,r.val] w (mB w x):=by
 subst hx;unfold mF at h0⊢;split at h0
 ·rename_i hn
  exact D.Si r (by rw[h1];exact hp) (by rw[h1];exact hn)
 rename_i nd hn
 split at h0
 ·rename_i hv
  rw[if_pos hv];exact D.WG r (by rw[h1];exact hp) (by rw[h1];exact hn) (by rw[h2];exact hv)
 exact absurd rfl h0
theorem dh.WM(D:dh X w0 w d b root at_ cnt M who v L E)(r:cV)(o:eC){lo:Nat→Prop}(hr:eZ w lo r o)(hp:o.path.length≤1000){x:Int}(hx:mF M o=x)(h0:x≠0):
  aI prog 257 #[.p d,r.val] w (mB w x):=by
 obtain⟨ok,op,oa,on,oc,ov,os,oe,pa,pn,pc⟩:=r;obtain⟨J2,V3,gj,over,sV,sW⟩:=o;obtain⟨q1,q2,q3,q4,q5,q6,q7,q8⟩:=hr;clear q6 q7 q8;dsimp only at q1 q2 q3 q4 q5 hp hx;subst q1 q2 q3 q4 q5;unfold cV.val cV.cells;dsimp only;obtain⟨w1,hw1⟩:=cG ((w.alloc (.cells #[.b ok,.s op,.slice oa on oc,.i ov,.bool os,.bool oe,.slice pa pn pc] 35)).alloc (.cells #[.I,.z,.n,.U,.U,.U,.I,.U,.V,.V,.V,.n,.n] 47));have de:cF w w1:=by rw[hw1];exact cR (cR (ag _ w) _) _
 have hs1:w1.heap.size=w.heap.size+2:=by rw[hw1];simp
 have k0:w1.heap[w.heap.size]?=some (.cells #[.b ok,.s op,.slice oa on oc,.i ov,.bool os,.bool oe,.slice pa pn pc] 35 (0,0)):=by rw[hw1];exact(aK _ _ cN).trans (aa w _)
 have k1:w1.heap[w.heap.size+1]?=some (.cells #[.I,.z,.n,.U,.U,.U,.I,.U,.V,.V,.V,.n,.n] 47 (0,0)):=by
  have:=aa (w.alloc (.cells #[.b ok,.s op,.slice oa on oc,.i ov,.bool os,.bool oe,.slice pa pn pc] 35)) (.cells #[.I,.z,.n,.U,.U,.U,.I,.U,.V,.V,.V,.n,.n] 47);rw[aH] at this;rw[hw1];exact this
 have kU:w1.rangeAt w.heap.size 0 [.b ok,.s op,.slice oa on oc,.i ov,.bool os,.bool oe,.slice pa pn pc]:=fun j u hu=>by
  rw[ay,af _ _ j _ 35 (0,0) k0];simpa using hu
 have qP:Hid (cH 35 7):=cE cK;have mg:Hid (cH 47 13):=cE cK;have D1:=D.below de;have H1:=cE (cD de (cD hs1 (cD k0 (cD k1 (cD hw1 kU)))));have hg:=D1.Fk ⟨ok,op,oa,on,oc,ov,os,oe,pa,pn,pc⟩ ⟨ok,op,gj,ov,os,oe⟩ rfl rfl hp hx h0;unfold cV.val cV.cells mB at hg;dsimp only at hg;have HG:=cE hg;clear D D1 hg hx h0 de hs1 k0 k1 hw1 kU;go_enter func257,ntmps257
 go_wp2_with (rw[←H1.out.2.2.2.2.1];refine aA rfl 35 (.tmp 3) rfl w.heap.size 0 rfl [.b ok,.s op,.slice oa on oc,.i ov,.bool os,.bool oe,.slice pa pn pc] _ H1.out.2.2.2.2.2 underlying35 rfl qP.out ?_)
 refine HG.out.mono ?_;rintro e w2 ⟨rfl,B2⟩;have iG:=cE (H1.out.1.trans (B2.mono H1.out.1.size));clear B2;unfold fH;go_wp2
 exact⟨rfl,rfl,iG.out⟩
theorem dh.get_none(D:dh X w0 w d b root at_ cnt M who v L E)(r:cV)(o:eC){lo:Nat→Prop}(hr:eZ w lo r o)(hp:o.path.length≤1000)(h:dF o.path M=none):
  aI prog 259 #[.p d,r.val] w (mB w 31):=by
 obtain⟨ok,op,oa,on,oc,ov,os,oe,pa,pn,pc⟩:=r;obtain⟨J2,V3,gj,over,sV,sW⟩:=o;obtain⟨q1,q2,q3,q4,q5,q6,q7,q8⟩:=hr;clear q6 q7 q8;dsimp only at q1 q2 q3 q4 q5 hp h;subst q1 q2 q3 q4 q5;unfold cV.val cV.cells;dsimp only;obtain⟨w1,hw1⟩:=cG ((w.alloc (.cells #[.b ok,.s op,.slice oa on oc,.i ov,.bool os,.bool oe,.slice pa pn pc] 35)).alloc (.cells #[.I,.z,.n,.U,.U,.U,.I,.U,.V,.V,.V,.n,.n] 47));have de:cF w w1:=by rw[hw1];exact cR (cR (ag _ w) _) _
 have hs1:w1.heap.size=w.heap.size+2:=by rw[hw1];simp
 have k0:w1.heap[w.heap.size]?=some (.cells #[.b ok,.s op,.slice oa on oc,.i ov,.bool os,.bool oe,.slice pa pn pc] 35 (0,0)):=by rw[hw1];exact(aK _ _ cN).trans (aa w _)
 have k1:w1.heap[w.heap.size+1]?=some (.cells #[.I,.z,.n,.U,.U,.U,.I,.U,.V,.V,.V,.n,.n] 47 (0,0)):=by
  have:=aa (w.alloc (.cells #[.b ok,.s op,.slice oa on oc,.i ov,.bool os,.bool oe,.slice pa pn pc] 35)) (.cells #[.I,.z,.n,.U,.U,.U,.I,.U,.V,.V,.V,.n,.n] 47);rw[aH] at this;rw[hw1];exact this
 have kU:w1.rangeAt w.heap.size 0 [.b ok,.s op,.slice oa on oc,.i ov,.bool os,.bool oe,.slice pa pn pc]:=fun j u hu=>by
  rw[ay,af _ _ j _ 35 (0,0) k0];simpa using hu
 have qP:Hid (cH 35 7):=cE cK;have mg:Hid (cH 47 13):=cE cK;have D1:=D.below de;have H1:=cE (cD de (cD hs1 (cD k0 (cD k1 (cD hw1 kU)))));have hg:=D1.told_none op hp h;have HG:=cE hg;have y1:w1.cell? ⟨w.heap.size,1,none⟩=some (.s op):=kU 1 _ rfl;clear D D1 hg h de hs1 k0 k1 hw1 kU;go_enter func259,ntmps259
 go_wp2_with (rw[←H1.out.2.2.2.2.1])
 refine HG.out.mono ?_;rintro e w2 ⟨rfl,B2⟩;have iG:=cE (H1.out.1.trans (B2.mono H1.out.1.size));clear B2;unfold fH;go_wp2
 exact⟨rfl,rfl,iG.out⟩
theorem dh.acn(D:dh X w0 w d b root at_ cnt M who v L E)(r:cV)(o:eC){lo:Nat→Prop}(hr:eZ w lo r o)(hp:o.path.length≤1000){nd:Nd}(h:dF o.path M=some nd):
  aI prog 259 #[.p d,r.val] w (kQ X w0 w d b root at_ cnt M M who v E ⟨o.path,nd,[]⟩):=by
 obtain⟨ok,op,oa,on,oc,ov,os,oe,pa,pn,pc⟩:=r;obtain⟨J2,V3,gj,over,sV,sW⟩:=o;obtain⟨q1,q2,q3,q4,q5,q6,q7,q8⟩:=hr;clear q6 q7 q8;dsimp only at q1 q2 q3 q4 q5 hp h;subst q1 q2 q3 q4 q5;unfold cV.val cV.cells;dsimp only;obtain⟨w1,hw1⟩:=cG ((w.alloc (.cells #[.b ok,.s op,.slice oa on oc,.i ov,.bool os,.bool oe,.slice pa pn pc] 35)).alloc (.cells #[.I,.z,.n,.U,.U,.U,.I,.U,.V,.V,.V,.n,.n] 47));have de:cF w w1:=by rw[hw1];exact cR (cR (ag _ w) _) _
 have hs1:w1.heap.size=w.heap.size+2:=by rw[hw1];simp
 have k0:w1.heap[w.heap.size]?=some (.cells #[.b ok,.s op,.slice oa on oc,.i ov,.bool os,.bool oe,.slice pa pn pc] 35 (0,0)):=by rw[hw1];exact(aK _ _ cN).trans (aa w _)
 have k1:w1.heap[w.heap.size+1]?=some (.cells #[.I,.z,.n,.U,.U,.U,.I,.U,.V,.V,.V,.n,.n] 47 (0,0)):=by
  have:=aa (w.alloc (.cells #[.b ok,.s op,.slice oa on oc,.i ov,.bool os,.bool oe,.slice pa pn pc] 35)) (.cells #[.I,.z,.n,.U,.U,.U,.I,.U,.V,.V,.V,.n,.n] 47);rw[aH] at this;rw[hw1];exact this
 have kU:w1.rangeAt w.heap.size 0 [.b ok,.s op,.slice oa on oc,.i ov,.bool os,.bool oe,.slice pa pn pc]:=fun j u hu=>by
  rw[ay,af _ _ j _ 35 (0,0) k0];simpa using hu
 have qP:Hid (cH 35 7):=cE cK;have mg:Hid (cH 47 13):=cE cK;have D1:=D.below de;have H1:=cE (cD de (cD hs1 (cD k0 (cD k1 (cD hw1 kU)))));have hg:=D1.sw op hp h;have HG:=cE hg;have HD:=cE D;have y1:w1.cell? ⟨w.heap.size,1,none⟩=some (.s op):=kU 1 _ rfl;clear D D1 hg h de hs1 k0 k1 hw1 kU;go_enter func259,ntmps259
 go_wp2_with (rw[←H1.out.2.2.2.2.1])
 refine HG.out.mono ?_;rintro e w2 ⟨r,rfl,hrd,B2,hfree⟩;obtain⟨ra,rn,rc,⟨r1,r2,r3,r4,r5,r6,r7,r8⟩⟩:=r;unfold ez Raw.cells eL.cells;dsimp only[aL,aN];have ht2:w2.there (w.heap.size+1) 0 13:=ei ((B2.block _ (by have:=H1.out.2.1;omega)).trans H1.out.2.2.2.1) cN;have H2:=cE (cD ht2 (cD hrd B2));clear ht2 hrd B2 hfree;have gu:Hid ((#[.I,.s op,.slice ra rn rc,.u r1,.u r2,.u r3,.i r4,.u r5,.v r6,.v r7,.v r8,.n,.n]:Array an).all (·.oneCell')=true):=cE (by simp[au]);go_wp2_with (refine aC rfl 47 (.tmp 4) (.tmp 8) rfl (w.heap.size+1) 0 #[.I,.s op,.slice ra rn rc,.u r1,.u r2,.u r3,.i r4,.u r5,.v r6,.v r7,.v r8,.n,.n] rfl rfl H2.out.1 mg.out gu.out ?_)
 refine aJ (di rfl _ _ (w.heap.size+1) 0 [.I,.s op,.slice ra rn rc,.u r1,.u r2,.u r3,.i r4,.u r5,.v r6,.v r7,.v r8,.n,.n] _ rfl (ah _ _ _ _ H2.out.1) underlying47 rfl mg.out) rfl ?_;obtain⟨de,hs1,k0,k1,_,_⟩:=H1.out;obtain⟨g1,g2,g3⟩:=H2.out;have K9:Kept (·=w.heap.size+1) w2 (w2.setCells (w.heap.size+1) 0 [.I,.s op,.slice ra rn rc,.u r1,.u r2,.u r3,.i r4,.u r5,.v r6,.v r7,.v r8,.n,.n]):=Kept.setCells (S:=(·=w.heap.size+1)) (p:=w.heap.size+1) rfl _ 0 (Kept.refl _ w2);have dz:cF w w2:=de.trans (g3.mono de.size);have D9:=(HD.out.below dz).iJ ((g3.block (w.heap.size+1) cL).trans k1) kC cM cM cM (by have:=HD.out.tree.bl.size;omega) K9;refine⟨⟨v,_,⟨ra,rn,rc,⟨r1,r2,r3,r4,r5,r6,r7,r8⟩⟩,none,0,rfl,D9,fun k h=>.inl h,?_,gG.nil _ _ _⟩,?_⟩
 ·refine(g2.cells (fun k hk e=>by have hk:w1.heap.size≤k:=hk;omega) _).mono (fun k hk=>?_)
  have hk:w1.heap.size≤k:=hk;refine⟨by omega,fun e=>?_⟩;have:=(HD.out.row.own.lt k e).2;omega
 exact(Kept.eH dz).Iy K9 cL
end
theorem nE(w:aj)(ok:Int)(op:cP)(oa:Option aV)(on oc:Nat)(ov:Int)(os oe:Bool)(pa:Option aV)(pn pc:Nat):
  ∃w1,w1=(w.alloc (.cells #[.b ok,.s op,.slice oa on oc,.i ov,.bool os,.bool oe,.slice pa pn pc] 35)).alloc (.cells #[.I,.z,.n,.U,.U,.U,.I,.U,.V,.V,.V,.n,.n] 47)∧cF w w1∧w1.heap.size=w.heap.size+2
   ∧w1.heap[w.heap.size]?=some (.cells #[.b ok,.s op,.slice oa on oc,.i ov,.bool os,.bool oe,.slice pa pn pc] 35 (0,0))∧w1.heap[w.heap.size+1]?=some (.cells #[.I,.z,.n,.U,.U,.U,.I,.U,.V,.V,.V,.n,.n] 47 (0,0))∧w1.rangeAt w.heap.size 0 [.b ok,.s op,.slice oa on oc,.i ov,.bool os,.bool oe,.slice pa pn pc]:=by
 have k0:((w.alloc (.cells #[.b ok,.s op,.slice oa on oc,.i ov,.bool os,.bool oe,.slice pa pn pc] 35)).alloc (.cells #[.I,.z,.n,.U,.U,.U,.I,.U,.V,.V,.V,.n,.n] 47)).heap[w.heap.size]?=some (.cells #[.b ok,.s op,.slice oa on oc,.i ov,.bool os,.bool oe,.slice pa pn pc] 35 (0,0)):=(aK _ _ cN).trans (aa w _);refine⟨_,rfl,cR (cR (ag _ w) _) _,by simp,k0,?_,?_⟩
 ·have:=aa (w.alloc (.cells #[.b ok,.s op,.slice oa on oc,.i ov,.bool os,.bool oe,.slice pa pn pc] 35)) (.cells #[.I,.z,.n,.U,.U,.U,.I,.U,.V,.V,.V,.n,.n] 47)
  rw[aH] at this;exact this
 intro j u hu;rw[ay,af _ _ j _ 35 (0,0) k0];simpa using hu
theorem mS{w:aj}{b o B o':Nat}{cs cs':List an}(h:w.rangeAt b o cs)(hn:b≠B):(w.setCells B o' cs').rangeAt b o cs:=fun j u hu=>by
 have hk:Kept (·=B) w (w.setCells B o' cs'):=Kept.setCells (S:=(·=B)) (p:=B) rfl _ o' (Kept.refl _ w);have h1:=h j u hu;exact(hk.cell (p:=⟨b,o+j,none⟩) (World.block_lt_of_cell? _ _ h1) (fun e=>hn e)).trans h1
section
variable{X:Nat→Prop}{w0 w:World}{d b:Nat}{root:cP}{at_ cnt:Int}{M:List (cP×Nd)}{who:dW}{v:Value}{L:List cZ}{E:List gh}
theorem dh.Va(D:dh X w0 w d b root at_ cnt M who v L E)(r:cV)(o:eC){lo:Nat→Prop}(hr:eZ w lo r o)(hp:o.path.length≤1000){nd:Nd}(h:dF o.path M=some nd)(hv:¬(0≤o.gS∧o.gS≠IntKind.i64.wrap nd.num.gS)):
  aI prog 258 #[.p d,r.val] w (kQ X w0 w d b root at_ cnt M M who v E ⟨o.path,nd,[]⟩):=by
 obtain⟨ok,op,oa,on,oc,ov,os,oe,pa,pn,pc⟩:=r;obtain⟨J2,V3,gj,over,sV,sW⟩:=o;obtain⟨q1,q2,q3,q4,q5,q6,q7,q8⟩:=hr;clear q6 q7 q8;dsimp only at q1 q2 q3 q4 q5 hp h hv;subst q1 q2 q3 q4 q5;unfold cV.val cV.cells
 try dsimp only
 obtain⟨w1,hw1,de,hs1,k0,k1,kU⟩:=nE w ok op oa on oc ov os oe pa pn pc;have qP:Hid (cH 35 7):=cE cK;have mg:Hid (cH 47 13):=cE cK;have D1:=D.below de;have H1:=cE (cD de (cD hs1 (cD k0 (cD k1 (cD hw1 kU)))));have hg:=fun(w':aj) (hb:cF w1 w')=>(D1.below hb).Kl ⟨ok,op,oa,on,oc,ov,os,oe,pa,pn,pc⟩ hp h hv
 unfold cV.val cV.cells at hg;dsimp only at hg;have HG:=cE hg;have HD:=cE D;have y1:∀w',aF w' w.heap.size 0 [.b ok,.s op,.slice oa on oc,.i ov,.bool os,.bool oe,.slice pa pn pc]→w'.cell? ⟨w.heap.size,1,none⟩=some (.s op):=fun w' h=>h 1 _ rfl
 have hs0:w.heap.size<w1.heap.size:=by omega
 have GG:=cE kU;clear D D1 hg de hs1 k0 k1 hw1 kU h hv;go_enter func258,ntmps258
 go_wp2_with fail
 rw[←H1.out.2.2.2.2.1];refine aE (S:=fun w'=>aF w' w.heap.size 0 [.b ok,.s op,.slice oa on oc,.i ov,.bool os,.bool oe,.slice pa pn pc]) cK GG.out (fun hS=>?_);refine tI 0 rfl hS ?_;refine tJ 1 rfl hS y1 ?_;refine tI 2 rfl hS ?_;refine tL 3 rfl hS 35 (.tmp 3) w.heap.size 0 [.b ok,.s op,.slice oa on oc,.i ov,.bool os,.bool oe,.slice pa pn pc] (fun _ h=>h) underlying35 qP.out ?_;simp only[cQ];refine cI 4 rfl ?_;refine(HG.out _ (ag _ _).drew).mono ?_;rintro e w2 ⟨⟨ra,rn,rc,⟨r1,r2,r3,r4,r5,r6,r7,r8⟩⟩,rfl,hrd,B2',hfree⟩;have B2:cF w1 w2:=(ag _ w1).drew.trans B2';have ht2:w2.there (w.heap.size+1) 0 13:=ei ((B2.block _ (by have:=H1.out.2.1;omega)).trans H1.out.2.2.2.1) cN;have ct:aF w2 w.heap.size 0 [.b ok,.s op,.slice oa on oc,.i ov,.bool os,.bool oe,.slice pa pn pc]:=dA GG.out B2 hs0;have H2:=cE (cD ht2 (cD hrd B2));clear ht2 hrd B2 B2' hfree hS;unfold Raw.val Raw.cells eL.cells
 try dsimp only
 refine⟨ct,?_⟩
 try dsimp only
 simp only[cQ];refine tI 5 rfl ct ?_;simp only[cQ];have gu:Hid ((#[.I,.s op,.slice ra rn rc,.u r1,.u r2,.u r3,.i r4,.u r5,.v r6,.v r7,.v r8,.n,.n]:Array an).all (·.oneCell')=true):=cE (by simp[au]);refine sI 6 rfl 47 (.tmp 4) (.tmp 10) (w.heap.size+1) 0 #[.I,.s op,.slice ra rn rc,.u r1,.u r2,.u r3,.i r4,.u r5,.v r6,.v r7,.v r8,.n,.n] H2.out.1 mg.out gu.out (mS ct cL) ?_;simp only[cQ];refine aO cK ?_ _;go_wp2_with fail
 refine aJ (di rfl _ _ (w.heap.size+1) 0 [.I,.s op,.slice ra rn rc,.u r1,.u r2,.u r3,.i r4,.u r5,.v r6,.v r7,.v r8,.n,.n] _ rfl (ah _ _ _ _ H2.out.1) underlying47 rfl mg.out) rfl ?_;obtain⟨de,hs1,k0,k1,_,_⟩:=H1.out;obtain⟨g1,g2,g3⟩:=H2.out;have K9:Kept (·=w.heap.size+1) w2 (w2.setCells (w.heap.size+1) 0 [.I,.s op,.slice ra rn rc,.u r1,.u r2,.u r3,.i r4,.u r5,.v r6,.v r7,.v r8,.n,.n]):=Kept.setCells (S:=(·=w.heap.size+1)) (p:=w.heap.size+1) rfl _ 0 (Kept.refl _ w2);have dz:cF w w2:=de.trans (g3.mono de.size);have D9:=(HD.out.below dz).iJ ((g3.block (w.heap.size+1) cL).trans k1) kC cM cM cM (by have:=HD.out.tree.bl.size;omega) K9;refine⟨⟨v,_,⟨ra,rn,rc,⟨r1,r2,r3,r4,r5,r6,r7,r8⟩⟩,none,0,rfl,D9,fun k h=>.inl h,?_,gG.nil _ _ _⟩,?_⟩
 ·refine(g2.cells (fun k hk e=>by have hk:w1.heap.size≤k:=hk;omega) _).mono (fun k hk=>?_)
  have hk:w1.heap.size≤k:=hk;refine⟨by omega,fun e=>?_⟩;have:=(HD.out.row.own.lt k e).2;omega
 exact(Kept.eH dz).Iy K9 cL
theorem dh.Ro(D:dh X w0 w d b root at_ cnt M who v L E)(r:cV)(o:eC){lo:Nat→Prop}(hr:eZ w lo r o)(hp:o.path.length≤1000){x:Int}(h:mF M o=x)(hv:x≠0):
  aI prog 258 #[.p d,r.val] w (mB w x):=by
 obtain⟨ok,op,oa,on,oc,ov,os,oe,pa,pn,pc⟩:=r;obtain⟨J2,V3,gj,over,sV,sW⟩:=o;obtain⟨q1,q2,q3,q4,q5,q6,q7,q8⟩:=hr;clear q6 q7 q8;dsimp only at q1 q2 q3 q4 q5 hp h hv;subst q1 q2 q3 q4 q5;unfold cV.val cV.cells
 try dsimp only
 obtain⟨w1,hw1,de,hs1,k0,k1,kU⟩:=nE w ok op oa on oc ov os oe pa pn pc;have qP:Hid (cH 35 7):=cE cK;have mg:Hid (cH 47 13):=cE cK;have D1:=D.below de;have H1:=cE (cD de (cD hs1 (cD k0 (cD k1 (cD hw1 kU)))));have hg:=fun(w':aj) (hb:cF w1 w')=>(D1.below hb).Fk ⟨ok,op,oa,on,oc,ov,os,oe,pa,pn,pc⟩ ⟨ok,op,gj,ov,os,oe⟩ rfl rfl hp h hv
 unfold cV.val cV.cells mB at hg;dsimp only at hg;have HG:=cE hg;have y1:∀w',aF w' w.heap.size 0 [.b ok,.s op,.slice oa on oc,.i ov,.bool os,.bool oe,.slice pa pn pc]→w'.cell? ⟨w.heap.size,1,none⟩=some (.s op):=fun w' h=>h 1 _ rfl
 have hs0:w.heap.size<w1.heap.size:=by omega
 have GG:=cE kU;clear D D1 hg de hs1 k0 k1 hw1 kU h hv;go_enter func258,ntmps258
 go_wp2_with fail
 rw[←H1.out.2.2.2.2.1];refine aE (S:=fun w'=>aF w' w.heap.size 0 [.b ok,.s op,.slice oa on oc,.i ov,.bool os,.bool oe,.slice pa pn pc]) cK GG.out (fun hS=>?_);refine tI 0 rfl hS ?_;refine tJ 1 rfl hS y1 ?_;refine tI 2 rfl hS ?_;refine tL 3 rfl hS 35 (.tmp 3) w.heap.size 0 [.b ok,.s op,.slice oa on oc,.i ov,.bool os,.bool oe,.slice pa pn pc] (fun _ h=>h) underlying35 qP.out ?_;simp only[cQ];refine cI 4 rfl ?_;refine(HG.out _ (ag _ _).drew).mono ?_;rintro e w2 ⟨rfl,B2'⟩;have iG:=cE (H1.out.1.trans (((ag _ w1).drew.trans B2').mono H1.out.1.size));clear B2' hS;unfold fH
 try dsimp only
 go_wp2_with fail
 exact⟨rfl,rfl,iG.out⟩
end
theorem Reads.dP{w w':aj}{lo S:Nat→Prop}{r:Raw}{nd:Nd}(h:Reads w lo r nd)(hk:Kept S w w')(hn:∀k,lo k→k<w.heap.size→¬S k):Reads w' lo r nd:=
 ⟨h.num,h.len,(h.data.kept hk (aB _) (fun b hb hl _=>hn b hb hl)).mono (fun _ h=>h) hk.size,h.nil⟩
theorem SX(x:Int)(p:ByteArray)(a k q:Option aV)(n c r1 r2 r3 r4 r5 r6 r7 r8 kn kc qn qc):∀y∈(#[.i x,.string p,.slice a n c,.u r1,.u r2,.u r3,.i r4,.u r5,.v r6,.v r7,.v r8,.slice k kn kc,.slice q qn qc]:Array an).toList,∀m,y≠.b m:=by
 intro y hy m;simp at hy;rcases hy with rfl|rfl|rfl|rfl|rfl|rfl|rfl|rfl|rfl|rfl|rfl|rfl|rfl<;>simp
section
variable{X:Nat→Prop}{w0 w:World}{d b:Nat}{root:cP}{at_ cnt:Int}{M:List (cP×Nd)}{who:dW}{v:Value}{L:List cZ}{E:List gh}
theorem dh.Zn(D:dh X w0 w d b root at_ cnt M who v L E)(p:cP):
  aI prog 20 #[.p b,.s p] w fun e w'=>∃a c,e=.returned (.slice a (jB root M p).length c)∧gG w' (fQ w.heap.size) a (jB root M p)∧cF w w':=by
 have R:=D.tree;obtain⟨lo,mb,T⟩:=R.tree;refine(T.BH R.short R.max R.fit.path p).mono ?_;rintro e w' ⟨v,rfl,hr,hb⟩;rcases hr with ⟨rfl,h0⟩|⟨g,cap,rfl,h2,h3,h4,h5⟩
 ·rw[h0]
  exact⟨none,0,rfl,gG.nil _ _ _,hb⟩
 refine⟨_,cap,rfl,fun k q hk=>⟨g,0,rfl,h2,h3,?_⟩,hb⟩;rw[ay];exact h5 k q hk
theorem dh.Qp(D:dh X w0 w d b root at_ cnt M who v L E)(r:cV)(o:eC){lo:Nat→Prop}(hr:eZ w lo r o)(hp:o.path.length≤1000)(h:dF o.path M=none):
  aI prog 260 #[.p d,r.val] w (mB w 31):=by
 obtain⟨ok,op,oa,on,oc,ov,os,oe,pa,pn,pc⟩:=r;obtain⟨J2,V3,gj,over,sV,sW⟩:=o;obtain⟨q1,q2,q3,q4,q5,q6,q7,q8⟩:=hr;clear q6 q7 q8;dsimp only at q1 q2 q3 q4 q5 hp h;subst q1 q2 q3 q4 q5;unfold cV.val cV.cells
 try dsimp only
 obtain⟨w1,hw1,de,hs1,k0,k1,kU⟩:=nE w ok op oa on oc ov os oe pa pn pc;have qP:Hid (cH 35 7):=cE cK;have mg:Hid (cH 47 13):=cE cK;have D1:=D.below de;have H1:=cE (cD de (cD hs1 (cD k0 (cD k1 (cD hw1 kU)))));have y1:w1.cell? ⟨w.heap.size,1,none⟩=some (.s op):=kU 1 _ rfl;have hg:=D1.told_none op hp h;have HG:=cE hg;clear D D1 hg h de hs1 k0 k1 hw1 kU;go_enter func260,ntmps260
 go_wp2_with (rw[←H1.out.2.2.2.2.1])
 refine HG.out.mono ?_;rintro e w2 ⟨rfl,B2⟩;have iG:=cE (H1.out.1.trans (B2.mono H1.out.1.size));clear B2;unfold fH;go_wp2
 exact⟨rfl,rfl,iG.out⟩
theorem dh.XH(D:dh X w0 w d b root at_ cnt M who v L E)(r:cV)(o:eC){lo:Nat→Prop}(hr:eZ w lo r o)(hp:o.path.length≤1000){nd:Nd}(h:dF o.path M=some nd):
  aI prog 260 #[.p d,r.val] w (kQ X w0 w d b root at_ cnt M M who v E ⟨o.path,nd,jB root M o.path⟩):=by
 obtain⟨ok,op,oa,on,oc,ov,os,oe,pa,pn,pc⟩:=r;obtain⟨J2,V3,gj,over,sV,sW⟩:=o;obtain⟨q1,q2,q3,q4,q5,q6,q7,q8⟩:=hr;clear q6 q7 q8;dsimp only at q1 q2 q3 q4 q5 hp h;subst q1 q2 q3 q4 q5;unfold cV.val cV.cells
 try dsimp only
 obtain⟨w1,hw1,de,hs1,k0,k1,kU⟩:=nE w ok op oa on oc ov os oe pa pn pc;have qP:Hid (cH 35 7):=cE cK;have mg:Hid (cH 47 13):=cE cK;have D1:=D.below de;have H1:=cE (cD de (cD hs1 (cD k0 (cD k1 (cD hw1 kU)))));have y1:w1.cell? ⟨w.heap.size,1,none⟩=some (.s op):=kU 1 _ rfl;have hg:=D1.sw op hp h;have HG:=cE hg;have HD:=cE D;have HDL:=cE D.lt;clear D D1 hg h de hs1 k0 k1 hw1 kU;go_enter func260,ntmps260
 go_wp2_with (rw[←H1.out.2.2.2.2.1])
 refine HG.out.mono ?_;rintro e w2 ⟨⟨ra,rn,rc,⟨r1,r2,r3,r4,r5,r6,r7,r8⟩⟩,rfl,hrd,B2,hfree⟩;unfold ez Raw.cells eL.cells;dsimp only[aL,aN];obtain⟨w3,kz⟩:=cG (w2.alloc (.cells #[.I,.s op,.slice ra rn rc,.u r1,.u r2,.u r3,.i r4,.u r5,.v r6,.v r7,.v r8,.n,.n] 47));have eE:cF w2 w3:=by rw[kz];exact cR (ag _ w2) _
 have k3:w3.heap[w2.heap.size]?=some (.cells #[.I,.s op,.slice ra rn rc,.u r1,.u r2,.u r3,.i r4,.u r5,.v r6,.v r7,.v r8,.n,.n] 47 (0,0)):=by rw[kz];exact aa w2 _
 have iI:cF w1 w3:=B2.trans (eE.mono B2.size);have hs3:w3.heap.size=w2.heap.size+1:=by rw[kz];simp
 have D3:=(HD.out.below H1.out.1).below iI;have y0:∀w',Kept (·=w2.heap.size) w3 w'→w'.cell? ⟨d,0,none⟩=some (.p b):=fun w' hk=>(hk.cell (p:=⟨d,0,none⟩) D3.lt (fun e=>by have e:d=w2.heap.size:=e;have:=HDL.out;have:=B2.size;have:=H1.out.2.1;omega)).trans D3.c0
 have y2:∀w',Kept (·=w2.heap.size) w3 w'→w'.cell? ⟨w.heap.size,1,none⟩=some (.s op):=fun w' hk=>(hk.cell (p:=⟨w.heap.size,1,none⟩) (by have:=B2.size;have:=H1.out.2.1;show w.heap.size<w3.heap.size;omega) (fun e=>by have e:w.heap.size=w2.heap.size:=e;have:=B2.size;have:=H1.out.2.1;omega)).trans ((iI.cell (p:=⟨w.heap.size,1,none⟩) (by have:=H1.out.2.1;show w.heap.size<w1.heap.size;omega)).trans y1)
 have HC:=cE ((D3.below (ag _ w3).drew).Zn op);have H3:=cE (cD kz (cD eE (cD k3 (cD iI (cD hs3 (cD hrd B2))))));have uU:Hid (Kept (·=w2.heap.size) w3 w3.drew):=cE (Kept.refl _ w3).drew;clear eE k3 iI hs3 D3 hrd B2 hfree kz;go_wp2_with fail
 rw[←H3.out.1];refine aE (S:=Kept (·=w2.heap.size) w3) cK uU.out (fun hS=>?_);refine tI 0 rfl hS ?_;refine tI 1 rfl hS ?_;refine tI 2 rfl hS ?_;refine tJ 3 rfl hS y0 ?_;simp only[cQ];refine tI 4 rfl hS ?_;refine tJ 5 rfl hS y2 ?_;simp only[cQ];refine cI 6 rfl ?_;refine HC.out.mono ?_;rintro e w4 ⟨ka,kc,rfl,GL,Se⟩;obtain⟨kn,hkn⟩:=cG ((jB root M op).length);rw[←hkn];have B4:cF w3 w4:=(ag _ w3).drew.trans Se;have S4:Kept (·=w2.heap.size) w3 w4:=Kept.eH B4;have k4:w4.heap[w2.heap.size]?=some (.cells #[.I,.s op,.slice ra rn rc,.u r1,.u r2,.u r3,.i r4,.u r5,.v r6,.v r7,.v r8,.n,.n] 47 (0,0)):=(B4.block _ (by have:=H3.out.2.2.2.2.1;omega)).trans H3.out.2.2.1;have c4:w4.cell? ⟨w2.heap.size,11,none⟩=some (.n):=af _ _ 11 _ 47 (0,0) k4;have f4:w4.frozen? ⟨w2.heap.size,11,none⟩=false:=by simp[aG,k4]
 obtain⟨w5,nM⟩:=cG (w4.setCell ⟨w2.heap.size,11,none⟩ (.slice ka kn kc));have K5:Kept (·=w2.heap.size) w4 w5:=by rw[nM];exact Kept.setCell (S:=(·=w2.heap.size)) (p:=⟨w2.heap.size,11,none⟩) (Kept.refl _ w4) rfl _
 have S5:Kept (·=w2.heap.size) w3 w5:=S4.trans K5;have k5:w5.heap[w2.heap.size]?=some (.cells #[.I,.s op,.slice ra rn rc,.u r1,.u r2,.u r3,.i r4,.u r5,.v r6,.v r7,.v r8,.slice ka kn kc,.n] 47 (0,0)):=by
  rw[nM];simp[aM,aD,k4]
 have RN:w5.there (w.heap.size+1) 0 13:=ei ((K5.block (w.heap.size+1) (by have:=B4.size;have:=H3.out.2.2.2.2.1;have:=H3.out.2.2.2.2.2.2.size;have:=H1.out.2.1;omega) (fun e=>by have e:w.heap.size+1=w2.heap.size:=e;have:=H3.out.2.2.2.2.2.2.size;have:=H1.out.2.1;omega)).trans ((B4.block (w.heap.size+1) (by have:=H3.out.2.2.2.2.1;have:=H3.out.2.2.2.2.2.2.size;have:=H1.out.2.1;omega)).trans ((H3.out.2.2.2.1.block (w.heap.size+1) (by have:=H1.out.2.1;omega)).trans H1.out.2.2.2.1))) cN;have XZ:w5.rangeAt w2.heap.size 0 [.I,.s op,.slice ra rn rc,.u r1,.u r2,.u r3,.i r4,.u r5,.v r6,.v r7,.v r8,.slice ka kn kc,.n]:=fun j u hu=>by
  rw[ay,af _ _ j _ 47 (0,0) k5];simpa using hu
 have H4:=cE (cD GL (cD B4 (cD k4 (cD K5 (cD k5 (cD RN (cD XZ (cD nM hkn))))))));clear GL Se B4 k4 K5 k5 RN XZ hkn;refine⟨S4,?_⟩
 try dsimp only
 simp only[cQ];refine tI 7 rfl S4 ?_;simp only[cQ];refine agP 8 rfl cK cO w5 (by rw[nM];go_simp<;>first|rfl|exact⟨rfl,rfl⟩) S5 ?_;clear nM c4 f4 S4 S5 y0 y2 hS;simp only[cQ];refine aO cK ?_ _;have gu:Hid ((#[.I,.s op,.slice ra rn rc,.u r1,.u r2,.u r3,.i r4,.u r5,.v r6,.v r7,.v r8,.slice ka kn kc,.n]:Array an).all (·.oneCell')=true):=cE (by simp[au]);go_wp2_with (first
  |(refine aA rfl 47 (.tmp 5) rfl w2.heap.size 0 rfl [.I,.s op,.slice ra rn rc,.u r1,.u r2,.u r3,.i r4,.u r5,.v r6,.v r7,.v r8,.slice ka kn kc,.n] _ H4.out.2.2.2.2.2.2.1 underlying47 rfl mg.out ?_)
  |(refine aC rfl 47 (.tmp 4) (.tmp 18) rfl (w.heap.size+1) 0 #[.I,.s op,.slice ra rn rc,.u r1,.u r2,.u r3,.i r4,.u r5,.v r6,.v r7,.v r8,.slice ka kn kc,.n] rfl rfl H4.out.2.2.2.2.2.1 mg.out gu.out ?_))
 refine aJ (di rfl _ _ (w.heap.size+1) 0 [.I,.s op,.slice ra rn rc,.u r1,.u r2,.u r3,.i r4,.u r5,.v r6,.v r7,.v r8,.slice ka kn kc,.n] _ rfl (ah _ _ _ _ H4.out.2.2.2.2.2.1) underlying47 rfl mg.out) rfl ?_;obtain⟨de,hs1,k0,k1,_,_⟩:=H1.out;obtain⟨_,g2,g3,g4,g5,g6,g7⟩:=H3.out;obtain⟨h1,h2,h3,h4,h5,h6,h7,_,hkn⟩:=H4.out;have s12:=g7.size;have s34:=h2.size;have s45:=h4.size;have K9:Kept (·=w.heap.size+1) w5 (w5.setCells (w.heap.size+1) 0 [.I,.s op,.slice ra rn rc,.u r1,.u r2,.u r3,.i r4,.u r5,.v r6,.v r7,.v r8,.slice ka kn kc,.n]):=Kept.setCells (S:=(·=w.heap.size+1)) (p:=w.heap.size+1) rfl _ 0 (Kept.refl _ w5);have Dg:cF w w3:=de.trans (g4.mono de.size);have hb4:cF w w4:=Dg.trans (h2.mono Dg.size);have k1':w5.heap[w.heap.size+1]?=_:=(h4.block (w.heap.size+1) cL (fun e=>by have e:w.heap.size+1=w2.heap.size:=e;omega)).trans ((h2.block (w.heap.size+1) cL).trans ((g4.block (w.heap.size+1) cL).trans k1));have D5:=(HD.out.below hb4).iJ h3 (SX _ _ _ _ _ _ _ _ _ _ _ _ _ _ _ _ _ _ _) cM cM cM (by have:=HD.out.tree.bl.size;omega) h4;have D9:=D5.iJ k1' kC cM cM cM (by have:=HD.out.tree.bl.size;omega) K9;have hvl:∀k,v.ownBlock=some k→k<w.heap.size:=fun k e=>(HD.out.row.own.lt k e).2
 subst hkn;refine⟨⟨v,_,⟨ra,rn,rc,⟨r1,r2,r3,r4,r5,r6,r7,r8⟩⟩,ka,kc,rfl,D9,fun k h=>.inl h,?_,?_⟩,?_⟩
 ·have e1:=g6.monoB (lo':=fun k=>w1.heap.size≤k∧k<w2.heap.size) (fun k hk hl=>⟨hk,hl⟩)
  have e2:=e1.dP (Kept.eH (S:=fun _=>False) (g2.trans (h2.mono g2.size))) (fun _ _ _ h=>h);have e3:=e2.dP h4 (fun k hk _ e=>by have e:k=w2.heap.size:=e;omega);have e4:=e3.dP K9 (fun k hk _ e=>by have e:k=w.heap.size+1:=e;omega);exact e4.mono (fun k hk=>⟨by omega,fun e=>by have:=hvl k e;omega⟩)
 ·have e3:=h1.dP h4 (fun k hk _ e=>by have hk:w3.heap.size≤k:=hk;have e:k=w2.heap.size:=e;omega)
  have e4:=e3.dP K9 (fun k hk _ e=>by have hk:w3.heap.size≤k:=hk;have e:k=w.heap.size+1:=e;omega);exact e4.mono (fun k hk _=>by have hk:w3.heap.size≤k:=hk;exact⟨by omega,fun e=>by have:=hvl k e;omega⟩)
 have q1:Kept (fun k=>k=b∨k=d∨v.ownBlock=some k) w w5:=(Kept.eH hb4).Iy h4 cL;exact q1.Iy K9 cL
end
theorem iV(t:Bool)(x:Int)(w:aj):aI prog 183 #[.bool t,.i x] w fun e w'=>w=w'∧(t=true∧e=.returned (.tuple #[])∨t=false∧e=fH x):=by
 cases t
 ·exact(FP x w).mono fun e w' ⟨h1,h2⟩=>⟨h2.symm,.inr ⟨rfl,h1⟩⟩
 exact(vZ x w).mono fun e w' ⟨h1,h2⟩=>⟨h2.symm,.inl ⟨rfl,h1⟩⟩
section
variable{X:Nat→Prop}{w0 w:World}{d b:Nat}{root:cP}{at_ cnt:Int}{M:List (cP×Nd)}{who:dW}{v:Value}{L:List cZ}{E:List gh}
theorem Fit.node(h:Fit M){p:cP}{nd:Nd}(hg:dF p M=some nd):nd.data.length≤1000000:=by
 obtain⟨x,hx,rfl⟩:=pT hg;exact h.data x hx
theorem Fit.key(h:Fit M){p:cP}{nd:Nd}(hg:dF p M=some nd):p.length≤1000:=by
 have:=gW.1 (show(dF p M).isSome=true by rw[hg];rfl);obtain⟨x,hx,rfl⟩:=List.mem_map.1 this;exact h.path x hx
theorem dh.WH(D:dh X w0 w d b root at_ cnt M who v L E)(r:cV)(o:eC)(h1:r.path=o.path)(h2:r.gS=o.gS)(hp:o.path.length≤1000):
  aI prog 296 #[.p d,r.val] w fun e w'=>(mF M o=0∧(∃r':Raw,e=.returned r'.val)∧cF w w')∨(mF M o≠0∧e=fH (mF M o)∧cF w w'):=by
 by_cases h:mF M o=0
 ·obtain⟨nd,hnd,TT⟩:=jT h
  refine(D.Kl (nd:=nd) r (by rw[h1];exact hp) (by rw[h1];exact hnd) (by rw[h2];exact TT)).mono fun e w' hh=>?_
  obtain⟨r',g1,_,g3,_⟩:=hh;exact .inl ⟨h,⟨r',g1⟩,g3⟩
 exact(D.Fk r o h1 h2 hp rfl h).mono fun e w' ⟨h1,h3⟩=>.inr ⟨h,h1,h3⟩
theorem dh.KS(D:dh X w0 w d b root at_ cnt M who v L E)(h0:0≤cnt)(h1:cnt≤100000)(hsz:E.length≤900)(r:cV)(o:eC){lo:Nat→Prop}(hr:eZ w lo r o)(hp:o.path.length≤1000){x:Int}(hx:iO root M o=x):
  aI prog 256 #[.p d,r.val] w fun e w'=>(x=0∧kQ X w0 w d b root at_ (cnt+1) M (sD M at_ o) who v (E++jK M at_ o) ⟨o.path,iN,[]⟩ e w')∨(x≠0∧mB w x e w'):=by
 obtain⟨ok,op,oa,on,oc,ov,os,oe,pa,pn,pc⟩:=r;obtain⟨J2,V3,gj,over,sV,sW⟩:=o;obtain⟨q1,q2,q3,q4,q5,q6,q7,q8⟩:=hr;clear q6 q7 q8;dsimp only at q1 q2 q3 q4 q5 hp;subst q1 q2 q3 q4 q5;unfold cV.val cV.cells
 try dsimp only
 obtain⟨w1,hw1,de,hs1,k0,k1,kU⟩:=nE w ok op oa on oc ov os oe pa pn pc;have qP:Hid (cH 35 7):=cE cK;have mg:Hid (cH 47 13):=cE cK;have D1:=D.below de;have y1:∀w',cF w1 w'→w'.cell? ⟨w.heap.size,1,none⟩=some (.s op):=fun w' hb=>(hb.cell (p:=⟨w.heap.size,1,none⟩) (by show w.heap.size<w1.heap.size;omega)).trans (kU 1 _ rfl)
 have y0:∀w',cF w1 w'→w'.cell? ⟨d,0,none⟩=some (.p b):=fun w' hb=>(hb.cell (p:=⟨d,0,none⟩) D1.lt).trans D1.c0
 have Wq:Hid (∀w',cF w1 w'→aI prog 184 #[.p b] w' fun e w''=>e=.returned (.s root)∧w''=w'):=cE fun w' hb=>by
  obtain⟨lo,mb,T⟩:=(D1.below hb).tree.tree;exact T.AZ
 have hv:=fun(w':aj) (hb:cF w1 w')=>(D1.below hb).WH ⟨ok,op,oa,on,oc,ov,os,oe,pa,pn,pc⟩ ⟨ok,op,gj,ov,os,oe⟩ rfl rfl hp
 unfold cV.val cV.cells at hv;dsimp only at hv;have HV:=cE hv;have HX:=cE hx;obtain⟨t1,ht1⟩:=cG (decide (op=root));have te:=(Lo ht1.symm).1;have zQ:=cE ht1;have HD:=cE (cD D (cD D1 (cD h0 (cD h1 hsz))));have hdl:=D.lt;have YX:=cE kU;have H1:=cE (cD de (cD hs1 (cD k0 (cD k1 hw1))));clear D D1 hx hv ht1 h0 h1 hsz de hs1 k0 k1 hw1 kU;go_enter func256,ntmps256
 go_wp2_with fail
 rw[←H1.out.2.2.2.2];refine aE (S:=Below w1.heap.size w1) cK (ag _ w1).drew (fun hS=>?_);refine tI 0 rfl hS ?_;refine tJ 1 rfl hS y1 ?_;refine tI 2 rfl hS ?_;refine tI 3 rfl hS ?_;simp only[cQ];refine tI 4 rfl hS ?_;refine tJ 5 rfl hS y0 ?_;simp only[cQ];refine cI 6 rfl ?_;refine(Wq.out _ hS).mono ?_;rintro e w2 ⟨rfl,rfl⟩;refine⟨hS,?_⟩
 try dsimp only
 simp only[cQ];refine tI 7 rfl hS ?_;simp only[cQ];refine cI 8 rfl ?_;refine(iV _ _ _).mono ?_;rintro e w2 ⟨rfl,(⟨ht,rfl⟩|⟨ht,rfl⟩)⟩
 rotate_left
 ·have HS:=cE hS
  have HT:=cE ht;clear hS ht;unfold fH
  try dsimp only
  go_wp2_with fail
  have e1:t1=true:=by simpa using HT.out
  have e2:op=root:=by have:=zQ.out;rw[e1] at this;simpa using this.symm
  have e3:x=30:=by rw[←HX.out];unfold iO;rw[if_pos e2]
  subst e3;exact⟨rfl,.inr ⟨by decide,rfl,H1.out.1.trans (HS.out.mono H1.out.1.size)⟩⟩
 refine⟨hS,?_⟩;have HT:=cE ht;clear ht
 try dsimp only
 simp only[cQ];refine aO cK ?_ _;have hne:Hid (op≠root):=cE (by
  have e1:t1=false:=by simpa using HT.out
  have:=zQ.out;rw[e1] at this;simpa using this.symm)
 have GG:Hid (aF w1.drew w.heap.size 0 [.b ok,.s op,.slice oa on oc,.i ov,.bool os,.bool oe,.slice pa pn pc]):=cE YX.out;clear te HT zQ;have sR:=cE hS;clear hS;go_wp2_with (refine aA rfl 35 (.tmp 3) rfl w.heap.size 0 rfl [.b ok,.s op,.slice oa on oc,.i ov,.bool os,.bool oe,.slice pa pn pc] _ GG.out underlying35 rfl qP.out ?_)
 refine(HV.out _ sR.out).mono ?_;rintro e w3 (⟨TU,⟨r',rfl⟩,xE⟩|⟨TU,rfl,xE⟩)
 rotate_left
 ·have HS:=cE (cD TU (sR.out.trans xE))
  clear TU xE;unfold fH;go_wp2_with fail
  have e3:x=mF M ⟨ok,op,gj,ov,os,oe⟩:=by rw[←HX.out];unfold iO;rw[if_neg hne.out,if_pos HS.out.1]
  exact⟨rfl,.inr ⟨by rw[e3];exact HS.out.1,by rw[e3];rfl,H1.out.1.trans (HS.out.2.mono H1.out.1.size)⟩⟩
 have B3:cF w1 w3:=sR.out.trans xE;have mQ:=cE B3;have VD:=cE TU;clear B3 xE TU;obtain⟨kn,hkn⟩:=cG ((jB root M op).length);obtain⟨t2,ht2⟩:=cG (decide (kn=0));have tk:((kn:Int)==0)=t2:=by rw[ht2];by_cases h:kn=0<;>simp[h]
 have tk2:(kn==0)=t2:=by rw[ht2];by_cases h:kn=0<;>simp[h]
 have tk3:decide (kn=0)=t2:=ht2.symm;have tk4:decide ((kn:Int)=0)=t2:=by rw[ht2];by_cases h:kn=0<;>simp[h]
 have HKN:=cE (cD hkn ht2);have HKC:Hid (∀w',cF w1 w'→aI prog 20 #[.p b,.s op] w' fun e w''=>∃a c,e=.returned (.slice a kn c)∧cF w1 w''):=cE fun w' hb=>((HD.out.2.1.below hb).Zn op).mono fun e w'' ⟨a,c,h1,_,h3⟩=>⟨a,c,by rw[HKN.out.1];exact h1,hb.trans (h3.mono hb.size)⟩
 clear hkn ht2;go_wp2_with fail
 refine aE (S:=Below w1.heap.size w1) cK mQ.out.drew (fun hS=>?_);refine tI 0 rfl hS ?_;refine tI 1 rfl hS ?_;refine tI 2 rfl hS ?_;refine tJ 3 rfl hS y0 ?_;simp only[cQ];refine tI 4 rfl hS ?_;refine tJ 5 rfl hS y1 ?_;simp only[cQ];refine cI 6 rfl ?_;refine(HKC.out _ hS).mono ?_;rintro e w4 ⟨ka,kc,rfl,B4⟩;refine⟨B4,?_⟩
 try dsimp only
 simp only[cQ];refine tI 7 rfl B4 ?_;refine tI 8 rfl B4 ?_;simp only[cQ];refine cI 9 rfl ?_;refine(iV _ _ _).mono ?_;rintro e w5 ⟨rfl,(⟨ht,rfl⟩|⟨ht,rfl⟩)⟩
 rotate_left
 ·have HS:=cE (cD B4 ht)
  clear hS ht B4;unfold fH
  try dsimp only
  go_wp2_with fail
  have e1:t2=false:=by simpa using HS.out.2
  have e2:¬kn=0:=by have:=HKN.out.2;rw[e1] at this;simpa using this.symm
  have e3:x=33:=by rw[←HX.out];unfold iO;rw[if_neg hne.out,if_neg (by simpa using VD.out),if_pos (by have:=HKN.out.1;dsimp only;omega)]
  subst e3;exact⟨rfl,.inr ⟨by decide,rfl,H1.out.1.trans (HS.out.1.mono H1.out.1.size)⟩⟩
 refine⟨B4,?_⟩;have JS:=cE (cD B4 ht);clear ht tk tk2 tk3 tk4 hS
 try dsimp only
 simp only[cQ];refine aO cK ?_ _;have hx0:Hid (x=0∧iO root M ⟨ok,op,gj,ov,os,oe⟩=0):=cE (by
  have e1:t2=true:=by simpa using JS.out.2
  have e2:kn=0:=by have:=HKN.out.2;rw[e1] at this;simpa using this.symm
  have e3:iO root M ⟨ok,op,gj,ov,os,oe⟩=0:=by unfold iO;rw[if_neg hne.out,if_neg (by simpa using VD.out),if_neg (by have:=HKN.out.1;dsimp only;omega)]
  exact⟨by rw[←HX.out];exact e3,e3⟩)
 obtain⟨nd,hnd,_⟩:=jT VD.out;dsimp only at hnd;have Ua:op∈M.map (·.1):=gW.1 (show(dF op M).isSome=true by rw[hnd];rfl);have afh:=HD.out.1.inv.under op Ua;have hpar:=HD.out.1.inv.parent op Ua hne.out;obtain⟨u,hu⟩:∃u,dF (cW op) M=some u:=Option.isSome_iff_exists.1 (gW.2 hpar);have HTO:=cE (fun(w':aj) (hb:cF w1 w')=>(HD.out.2.1.below hb).vC (HD.out.2.1.below hb).tree.max op hp hu);have HFX:=cE (cD (yT (at_:=at_) HD.out.1.inv afh hx0.out.2) (cD hu (cD (HD.out.1.tree.fit.key hu) (HD.out.1.tree.fit.node hu))));have yp:∀w',(fun w':aj=>w'.cell? ⟨w.heap.size,1,none⟩=some (.s op)) w'→w'.cell? ⟨w.heap.size,1,none⟩=some (.s op):=fun w' h=>h
 have HYP:Hid (w4.drew.cell? ⟨w.heap.size,1,none⟩=some (.s op)):=cE (y1 _ B4.drew);clear hnd Ua afh hpar hu y0 B4;go_wp2_with fail
 refine aE (S:=fun w'=>w'.cell? ⟨w.heap.size,1,none⟩=some (.s op)) cK HYP.out (fun hS=>?_);refine tI 0 rfl hS ?_;refine tI 1 rfl hS ?_;refine tJ 2 rfl hS yp ?_;refine tI 3 rfl hS ?_;simp only[cQ];refine tI 4 rfl hS ?_;refine tI 5 rfl hS ?_;refine tJ 6 rfl hS yp ?_;simp only[cQ];refine cI 7 rfl ?_;refine(HTO.out _ JS.out.1.drew).mono ?_;rintro e w5 ⟨⟨ra,rn,rc,⟨r1,r2,r3,r4,r5,r6,r7,r8⟩⟩,rfl,hrd,B5',hfree⟩;have B5:cF w1 w5:=JS.out.1.drew.trans (B5'.mono JS.out.1.size);have oP:=y1 _ B5;unfold cZ.val cZ.cells Raw.cells eL.cells;dsimp only[aL,aN];refine⟨oP,?_⟩
 try dsimp only
 simp only[cQ];obtain⟨w6,l6⟩:=cG (w5.alloc (.cells #[.s op,.T,.n,.U,.U,.U,.I,.U,.V,.V,.V,.string (bs (cW op)),.F,.slice ra rn rc,.u r1,.u r2,.u r3,.i r4,.u r5,.v r6,.v r7,.v r8] 93));have B6':cF w5 w6:=by rw[l6];exact cR (ag _ w5) _
 have B6:cF w1 w6:=B5.trans (B6'.mono B5.size);have uH:=y1 _ B6;have NZ:w6.heap.size=w5.heap.size+1:=by rw[l6];simp
 have Z1:gC w6 w6.heap.size (some ⟨w5.heap.size,0,none⟩) [⟨op,true,oZ⟩,⟨cW op,false,⟨ra,rn,rc,⟨r1,r2,r3,r4,r5,r6,r7,r8⟩⟩⟩]:=by rw[l6];exact Jk w5 ⟨op,true,oZ⟩ ⟨cW op,false,⟨ra,rn,rc,⟨r1,r2,r3,r4,r5,r6,r7,r8⟩⟩⟩
 have Z0:eV w6 (fQ w4.heap.size) [⟨op,true,oZ⟩,⟨cW op,false,⟨ra,rn,rc,⟨r1,r2,r3,r4,r5,r6,r7,r8⟩⟩⟩] (jK M at_ ⟨ok,op,gj,ov,os,oe⟩):=by
  unfold jK
  try dsimp only
  rw[HFX.out.2.1];exact IL (r:=⟨op,true,oZ⟩) ⟨rfl,rfl,mY _ _⟩ ⟨rfl,rfl,hrd.below B6'⟩
 have D6:=HD.out.2.1.below B6;have EG:=D6.Gp HD.out.2.2.1 HD.out.2.2.2.1 (gb:=w5.heap.size) (go_:=0) (n:=2) (c:=2) (Lx:=[⟨op,true,oZ⟩,⟨cW op,false,⟨ra,rn,rc,⟨r1,r2,r3,r4,r5,r6,r7,r8⟩⟩⟩]) (Ex:=jK M at_ ⟨ok,op,gj,ov,os,oe⟩) rfl Z1 (by have h2:=HD.out.1.tree.lt;have h3:=B5.size;have:=H1.out.2.1;omega) Z0
  (by intro k hk;have hk:w4.heap.size≤k:=hk;have:=JS.out.1.size;have:=H1.out.2.1;exact⟨fun e=>by have:=(HD.out.1.row.own.lt k e).2;omega,fun e=>by have:=HD.out.1.old k e;omega⟩)
  (by
   intro y hy;simp[jK] at hy;rcases hy with rfl|rfl
   ·exact⟨hp,by show iN.data.length≤1000000;simp[iN]⟩
   refine⟨HFX.out.2.2.1,?_⟩;show(CT _ at_).data.length≤1000000;rw[HFX.out.2.1];exact HFX.out.2.2.2) HFX.out.1 (by have:=HD.out.1.len;have:=HD.out.2.2.2.2;omega)
 have Y2:=cE EG;have H6:=cE (cD B6 NZ);have CO:=cE l6;clear hrd B5' hfree Z1 Z0 D6 EG B6' B6 NZ B5;refine sM 8 rfl cK cO (.slice (some ⟨w5.heap.size,0,none⟩) 2 2) w6 (by rw[CO.out];go_simp<;>first|rfl|exact⟨rfl,rfl⟩) uH ?_;clear l6 oP hS;simp only[cQ];refine cI 9 rfl ?_;refine Y2.out.mono ?_;rintro e w8 ⟨rfl,⟨v8,D8,G8⟩,K8⟩;have iQ:b<w.heap.size:=HD.out.1.tree.lt;have hvl:∀k,v.ownBlock=some k→k<w.heap.size:=fun k h=>(HD.out.1.row.own.lt k h).2
 have hnk:∀k,w.heap.size≤k→¬(k=b∨k=d∨v.ownBlock=some k):=fun k hk h=>by
  rcases h with h|h|h
  ·omega
  ·omega
  have:=hvl k h;omega
 have QG:=H6.out.1.size;have hs1:=H1.out.2.1;have jL:w8.cell? ⟨w.heap.size,1,none⟩=some (.s op):=(K8.cell (p:=⟨w.heap.size,1,none⟩) (by show w.heap.size<w6.heap.size;omega) (hnk _ (aB _))).trans uH;have k8:=(K8.block (w.heap.size+1) cL (hnk _ (bg _))).trans ((H6.out.1.block (w.heap.size+1) cL).trans H1.out.2.2.2.1);have ht8:w8.there (w.heap.size+1) 0 13:=ei k8 cN;have H8:=cE (cD D8 (cD K8 (cD k8 (cD hnk (cD G8 ht8)))));clear D8 K8 k8 hnk G8 ht8 QG hs1 iQ hvl;refine⟨jL,?_⟩;clear uH
 try dsimp only
 simp only[cQ];refine aO cK ?_ _;have gu:Hid ((#[.I,.s op,.n,.U,.U,.U,.I,.U,.V,.V,.V,.n,.n]:Array an).all (·.oneCell')=true):=cE (by simp[au]);go_wp2_with (refine aC rfl 47 (.tmp 4) (.tmp 39) rfl (w.heap.size+1) 0 #[.I,.s op,.n,.U,.U,.U,.I,.U,.V,.V,.V,.n,.n] rfl rfl H8.out.2.2.2.2.2 mg.out gu.out ?_)
 refine aJ (di rfl _ _ (w.heap.size+1) 0 [.I,.s op,.n,.U,.U,.U,.I,.U,.V,.V,.V,.n,.n] _ rfl (ah _ _ _ _ H8.out.2.2.2.2.2) underlying47 rfl mg.out) rfl ?_;obtain⟨de,hs1,k0,k1,_⟩:=H1.out;obtain⟨D8,K8,k8,hnk,G8,ht8⟩:=H8.out;have s6:=H6.out.1.size;have s8:=K8.size;have K9:Kept (·=w.heap.size+1) w8 (w8.setCells (w.heap.size+1) 0 [.I,.s op,.n,.U,.U,.U,.I,.U,.V,.V,.V,.n,.n]):=Kept.setCells (S:=(·=w.heap.size+1)) (p:=w.heap.size+1) rfl _ 0 (Kept.refl _ w8);have D9:=D8.iJ k8 kC cM cM cM (by have:=HD.out.1.tree.bl.size;omega) K9;have qb:cF w w6:=de.trans (H6.out.1.mono de.size);have q8:Kept (fun k=>k=b∨k=d∨v.ownBlock=some k) w w8:=(Kept.eH qb).trans K8;refine .inl ⟨hx0.out.1,⟨v8,_,oZ,none,0,rfl,D9,?_,mY _ _,gG.nil _ _ _⟩,q8.Iy K9 cL⟩;intro k hk;rcases G8 k hk with h|h
 ·exact .inl h
 exact .inr cL
end
theorem MN(w:aj):(bG Value.nilIface 20 25 true).run prog w=.ok (.tuple #[.I,.F]) w:=by kernel_rfl
theorem MO(x:Int)(w:aj):(bG (.iface 25 (.i x)) 20 25 true).run prog w=.ok (.tuple #[.i x,.T]) w:=by kernel_rfl
theorem MJ(p:aV)(w:aj):
  CallsD prog 182 #[.pointer (some p)] .returning w fun e u' w'=>e=.returned (.tuple #[])∧u'=.returning∧w'=w:=by
 have h1:=MN;refine callsD_of_wpS func182 rfl fun c₀ cs hu=>?_
 apply wpS_seq;apply bz;simp[wpOpsS,go_sem,recoverD,hu,h1,ntmps182,bh];apply wpS_seq;apply bz;simp[wpOpsS,go_sem,recoverD,hu,h1,ntmps182,bh];refine wpS_cond (t:=false) (by simp[Act.eval,aZ]) ?_;simp only[Bool.false_eq_true,if_false];refine wpS_of_wp (wp_skip ?_);cases c₀
 simp_all [bodyPostS,results,Tryz.results182]
theorem Ae(B:Nat)(x:Int)(older:List aY)(w:aj)(ht:w.there B 0 13):
  CallsD prog 182 #[.p B] (.panicking ({v:=.iface 25 (.i x),recovered:=false}::older)) w fun e u' w'=>
   e=.returned (.tuple #[])∧u'=.panicking ({v:=.iface 25 (.i x),recovered:=true}::older)∧w'=w.setCells B 0 [.i x,.z,.n,.U,.U,.U,.I,.U,.V,.V,.V,.n,.n]:=by
 have h1:=MO x;have mg:Hid (cH 47 13):=cE cK;have gu:Hid ((#[.i x,.z,.n,.U,.U,.U,.I,.U,.V,.V,.V,.n,.n]:Array an).all (·.oneCell')=true):=cE (by simp[au]);refine callsD_of_wpS func182 rfl fun c₀ cs hu=>?_
 apply wpS_seq;apply bz;simp[wpOpsS,go_sem,recoverD,hu,h1,ntmps182,bh];apply wpS_seq;apply bz;simp[wpOpsS,go_sem,recoverD,hu,h1,ntmps182,bh];refine wpS_cond (t:=true) (by simp[Act.eval,aZ]) ?_;simp only[if_true];refine wpS_of_wp ?_;have er:(aZ 10 aT:Array an)=#[aT,aT,aT,aT,aT,aT,aT,aT,aT,aT]:=rfl;rw[er];simp only[List.setIfInBounds_toArray,List.set_cons_succ,List.set_cons_zero,List.append_toArray,aL,aN];go_wp2_with (refine aC rfl 47 (.tmp 0) (.tmp 10) rfl B 0 #[.i x,.z,.n,.U,.U,.U,.I,.U,.V,.V,.V,.n,.n] rfl rfl ht mg.out gu.out ?_)
 exact⟨rfl,_,rfl,_,bC rfl _ _ _,rfl,rfl,rfl⟩
def xq(p:an)(ds:List Deferred)(R:List aY→aj→Prop)(K:Act→aj→Prop):Exit→Act→aj→Prop
 |.panic c,a,w=>a.tmps.getD 4 aT=p∧a.defers=ds∧R c w
 |.normal,a,w=>K a w
 |_,_,_=>False
theorem gT{p:an}{ds:List Deferred}{R:List aY→aj→Prop}{K:Act→aj→Prop}{c:List aY}{a:Act}{dst:Option Tmp}{v:an}{w:aj}(hd:dst≠some 4)(h:xq p ds R K (.panic c) (a.put dst v) w):xq p ds R K (.panic c) a w:=by
 obtain⟨h1,h2,h3⟩:=h;cases dst with
 |none=>exact⟨h1,h2,h3⟩
 |some k=>
 refine⟨?_,h2,h3⟩;have hk:k≠4:=fun e=>hd (by rw[e])
 rw[←h1];simp[Act.put,Array.getD_eq_getD_getElem?,Array.getElem?_setIfInBounds,hk]
theorem tF{P:Program}{c:Code}{Q:Exit→Act→aj→Prop}{a:Act}{w:aj}(p:an)(ds:List Deferred)(R:List aY→aj→Prop)
  (hp:∀chain a w,a.tmps.getD 4 aT=p→a.defers=ds→R chain w→Q (.panic chain) a w)
  (h:c.wp P (xq p ds R (Q .normal)) a w):c.wp P Q a w:=by
 refine Code.wp_mono ?_ h;intro e a w h;cases e with
 |normal=>exact h
 |panic c=>exact hp c a w h.1 h.2.1 h.2.2
 |_=>exact(h:False).elim
theorem iD:cH 47 13:=cJ
theorem zA{tmps:Array an}{B:Nat}{x:Int}{w':aj}{R:aW→aj→Prop}(hp:tmps.getD 4 aT=.p B)(ht:w'.there B 0 13)
  (hR:R (.returned (.agg #[.i x,.z,.n,.U,.U,.U,.I,.U,.V,.V,.V,.n,.n])) (w'.setCells B 0 [.i x,.z,.n,.U,.U,.U,.I,.U,.V,.V,.V,.n,.n])):
  Leaves prog Tryz.f74 tmps R [{target:=.fn (.func 182) #[.p B],args:=#[]}] (.panicking [{v:=Yu x,recovered:=false}]) w':=by
 refine leaves_cons (f:=182) (args:=#[.p B]) cN (by simp[go_sem]) ?_;refine(Ae B x [] w' ht).mono ?_;rintro e u' w'' ⟨rfl,rfl,rfl⟩;exact⟨_,di rfl tmps _ B 0 [.i x,.z,.n,.U,.U,.U,.I,.U,.V,.V,.V,.n,.n] _ hp (ah _ _ _ _ ht) underlying47 rfl iD,hR⟩
theorem Gr{tmps:Array an}{B:Nat}{cs:List an}{w':aj}{R:aW→aj→Prop}(hp:tmps.getD 4 aT=.p B)(hc:w'.rangeAt B 0 cs)(hl:cs.length=13)
  (hR:R (.returned (.agg cs.toArray)) w'):
  Leaves prog Tryz.f74 tmps R [{target:=.fn (.func 182) #[.p B],args:=#[]}] .returning w':=by
 refine leaves_cons (f:=182) (args:=#[.p B]) cN (by simp[go_sem]) ?_;refine(MJ ⟨B,0,none⟩ w').mono ?_;rintro e u' w'' ⟨rfl,rfl,rfl⟩;exact⟨_,di rfl tmps _ B 0 cs _ hp hc underlying47 rfl (by rw[hl];exact iD),hR⟩
theorem kQ.box{X:Nat→Prop}{w0 w w2 w3:aj}{d b:Nat}{root:cP}{at_ cnt:Int}{M M':List (cP×Nd)}{who:dW}{v:an}{E:List gh}{A:JY}{e:aW}(h:kQ X w0 w2 d b root at_ cnt M M' who v E A e w3)(hb:cF w w2){B:Nat}(hB:w.heap.size≤B)(EI:B<w2.heap.size)
  (hk:w2.heap[B]?=some (.cells #[.I,.z,.n,.U,.U,.U,.I,.U,.V,.V,.V,.n,.n] 47 (0,0))) (hd:d<w.heap.size) (iQ:b<w.heap.size) (hv:∀k,v.ownBlock=some k→k<w.heap.size) (h0:w0.heap.size≤w.heap.size) (cs:List an):
  kQ X w0 w d b root at_ cnt M M' who v E A e (w3.setCells B 0 cs):=by
 obtain⟨⟨v',L',r,ka,kc,he,D,G,hr,F8⟩,K⟩:=h;have k3:=(K.block B EI (fun e=>by
  rcases e with e|e|e
  ·omega
  ·omega
  have:=hv B e;omega)).trans hk
 have K9:Kept (·=B) w3 (w3.setCells B 0 cs):=Kept.setCells (S:=(·=B)) (p:=B) rfl _ 0 (Kept.refl _ w3);have D9:=D.iJ k3 kC cM cM cM cL K9;have hs:=hb.size;refine⟨⟨v',L',r,ka,kc,he,D9,fun k e=>(G k e).imp id (fun h=>by omega),?_,?_⟩,?_⟩
 ·exact(hr.dP K9 (fun k h1 _ e=>by have e:k=B:=e;have:=h1.1;omega)).monoB (fun k h1 _=>⟨by have:=h1.1;omega,h1.2⟩)
 ·exact(F8.dP K9 (fun k h1 _ e=>by have e:k=B:=e;have:=h1.1;omega)).mono (fun k h1 _=>⟨by have:=h1.1;omega,h1.2⟩)
 exact((Kept.eH hb).trans K).Iy K9 hB
section
variable{X:Nat→Prop}{w0 w:World}{d b:Nat}{root:cP}{at_ cnt:Int}{M:List (cP×Nd)}{who:dW}{v:Value}{L:List cZ}{E:List gh}
def lR(X:Nat→Prop)(w0 w:aj)(d b:Nat)(root:cP)(at_ cnt:Int)(M:List (cP×Nd))(who:dW)(v:an)(E:List gh)(o:eC)(e:aW)(w':aj):Prop:=
 (lN root M who o=0∧∃yC,cnt≤yC∧yC≤cnt+1∧kQ X w0 w d b root at_ yC M (od root M at_ who o) who v (E++jA root M at_ who o) (C3 root M at_ who o) e w')∨(lN root M who o≠0∧mB w (lN root M who o) e w')
def Cy(X:Nat→Prop)(w0 w:aj)(d b:Nat)(root:cP)(at_ cnt:Int)(M:List (cP×Nd))(who:dW)(v:an)(E:List gh)(o:eC)(e:aW)(w':aj):Prop:=
 (lN root M who o=0∧∃yC,cnt≤yC∧yC≤cnt+1∧kQ X w0 w d b root at_ yC M (od root M at_ who o) who v (E++jA root M at_ who o) (C3 root M at_ who o) e w')∨(lN root M who o≠0∧e=.returned (.agg (ez (lN root M who o) [] oZ none 0 0 none 0 0).toArray)∧cF w w')
theorem PJ{o:eC}(h:dX o.path root=false):lN root M who o=30:=by unfold lN;rw[if_pos h]
theorem TI{n f:Nat}(h:dF n Qu=some f):∃l,keyOf prog 5 (oL n)=some l:=by
 have hn:n=1∨n=2∨n=3∨n=4∨n=5∨n=6:=by
  have:=pQ (a:=n) (m:=Qu);by_cases h1:n=1∨n=2∨n=3∨n=4∨n=5∨n=6
  ·exact h1
  have h2:dF n Qu=none:=this.2 (fun p hp=>by
   simp[Qu] at hp;rcases hp with rfl|rfl|rfl|rfl|rfl|rfl<;>(show _≠n;simp;omega))
  rw[h2] at h;cases h
 rcases hn with rfl|rfl|rfl|rfl|rfl|rfl<;>exact⟨_,rfl⟩
theorem aaG{w:aj}:(zeroValue 117).run prog w=.ok .nilFunc w:=by kernel_rfl
theorem dh.sF(D:dh X w0 w d b root at_ cnt M who v L E)(r:cV)(o:eC){lo:Nat→Prop}(hr:eZ w lo r o)(hp:o.path.length≤1000)(f:Nat)(hf:dF r.kind.toNat Qu=some f)(hk0:0≤r.kind)(Jd:∀args w,(callFunc f args).run prog w=.ok (.enter f args) w)
  (hm:dX o.path root=true→∀w',cF w w'→aI prog f #[.p d,r.val] w' (lR X w0 w' d b root at_ cnt M who v E o)):
  aI prog 74 #[.p d,r.val] w (Cy X w0 w d b root at_ cnt M who v E o):=by
 obtain⟨ok,op,oa,on,oc,ov,os,oe,pa,pn,pc⟩:=r;obtain⟨J2,V3,gj,over,sV,sW⟩:=o;obtain⟨q1,q2,q3,q4,q5,q6,q7,q8⟩:=hr;clear q1 q3 q4 q5 q6 q7 q8;dsimp only at q2 hf hk0 hp hm;subst q2;obtain⟨kn,rfl⟩:∃kn:Nat,ok=kn:=⟨ok.toNat,by omega⟩;rw[Int.toNat_natCast] at hf;unfold cV.val cV.cells at hm⊢;dsimp only at hm⊢;obtain⟨w1,hw1,de,hs1,k0,k1,kU⟩:=nE w (kn:Int) op oa on oc ov os oe pa pn pc;have qP:Hid (cH 35 7):=cE cK;have mg:Hid (cH 47 13):=cE iD;have D1:=D.below de;have y1:∀w',cF w1 w'→w'.cell? ⟨w.heap.size,1,none⟩=some (.s op):=fun w' hb=>(hb.cell (p:=⟨w.heap.size,1,none⟩) (by show w.heap.size<w1.heap.size;omega)).trans (kU 1 _ rfl)
 have y0:∀w',cF w1 w'→w'.cell? ⟨d,0,none⟩=some (.p b):=fun w' hb=>(hb.cell (p:=⟨d,0,none⟩) D1.lt).trans D1.c0
 have Wq:Hid (∀w',cF w1 w'→aI prog 184 #[.p b] w' fun e w''=>e=.returned (.s root)∧w''=w'):=cE fun w' hb=>by
  obtain⟨lo,mb,T⟩:=(D1.below hb).tree.tree;exact T.AZ
 have HU:=cE (rG w1 D1.tree.max op root hp D.tree.rl);obtain⟨t1,ht1⟩:=cG (dX op root);rw[←ht1] at HU;have zQ:=cE ht1;have HD:=cE (cD D D1);have hdl:=D.lt;have YX:=cE kU;have HM:=cE hm;have HFF:=cE hf;have H1:=cE (cD de (cD hs1 (cD k0 (cD k1 hw1))));have hmf:∀(fn:Fn) (first cap:Array an) (w:aj),(Instr.makeFunc fn first cap).run prog w=.ok (.func fn first cap) w:=fun _ _ _ _=>rfl
 clear D D1 ht1 de hs1 k0 k1 hw1 kU hm hf;go_enter_defers func74,ntmps74
 go_wp2_with fail
 rw[←H1.out.2.2.2.2];refine tF (.p (w.heap.size+1)) [{target:=.fn (.func 182) #[.p (w.heap.size+1)],args:=#[]}] (fun c w'=>c=[{v:=Yu 30,recovered:=false}]∧t1=false∧cF w1 w') ?_ ?_
 ·rintro chain a w' h1 h2 ⟨rfl,ht,hb⟩
  change Leaves _ _ a.tmps _ a.defers _ w'
  rw[h2];obtain⟨de,hs1,k0,k1,_⟩:=H1.out;have ht1:w'.there (w.heap.size+1) 0 13:=ei ((hb.block _ cL).trans k1) cN;have K9:Kept (·=w.heap.size+1) w' (w'.setCells (w.heap.size+1) 0 [.i 30,.z,.n,.U,.U,.U,.I,.U,.V,.V,.V,.n,.n]):=Kept.setCells (S:=(·=w.heap.size+1)) (p:=w.heap.size+1) rfl _ 0 (Kept.refl _ w');have dz:cF w w':=de.trans (hb.mono de.size);have he:lN root M who ⟨J2,op,gj,over,sV,sW⟩=30:=PJ (by rw[←zQ.out];exact ht);refine zA h1 ht1 (.inr ⟨by rw[he];decide,by rw[he];rfl,dz.trans (K9.below dz.size (fun k e=>by have e:k=w.heap.size+1:=e;omega))⟩)
 refine aE (S:=Below w1.heap.size w1) cK (ag _ w1).drew (fun hS=>?_);refine iZ 0 rfl cK cK cK cO hS (fun w' hS'=>by go_simp<;>rfl) (fun _ _ _ h=>gT cM h) ?_;simp only[cQ];refine iZ 1 rfl cK cK cK cO hS (fun w' hS'=>by have:=y1 w' hS';go_simp<;>rfl) (fun _ _ _ h=>gT cM h) ?_;simp only[cQ];refine iZ 2 rfl cK cK cK cO hS (fun w' hS'=>by go_simp<;>rfl) (fun _ _ _ h=>gT cM h) ?_;simp only[cQ];refine iZ 3 rfl cK cK cK cO hS (fun w' hS'=>by go_simp<;>rfl) (fun _ _ _ h=>gT cM h) ?_;simp only[cQ];refine iZ 4 rfl cK cK cK cO hS (fun w' hS'=>by go_simp<;>rfl) (fun _ _ _ h=>gT cM h) ?_;simp only[cQ];refine iZ 5 rfl cK cK cK cO hS (fun w' hS'=>by have:=y0 w' hS';go_simp<;>rfl) (fun _ _ _ h=>gT cM h) ?_;simp only[cQ];refine cI 6 rfl ?_;refine(Wq.out _ hS).mono ?_;rintro e w2 ⟨rfl,rfl⟩;refine⟨hS,?_⟩
 try dsimp only
 simp only[cQ];refine cI 7 rfl ?_;refine(HU.out _ (hS)).mono ?_;rintro e w2 ⟨rfl,B2⟩;refine⟨B2,?_⟩
 try dsimp only
 simp only[cQ];refine cI 8 rfl ?_;refine(iV _ _ _).mono ?_;rintro e w2' ⟨rfl,(⟨ht,rfl⟩|⟨ht,rfl⟩)⟩
 rotate_left
 ·exact⟨rfl,rfl,rfl,ht,B2⟩
 refine⟨B2,?_⟩;have iG:=cE (cD B2 (zQ.out.symm.trans ht));clear hS B2 ht y0
 try dsimp only
 simp only[cQ];refine aO cK ?_ _;simp only[xq];go_wp2_with fail
 have RX:Hid (w2.drew.rangeAt w.heap.size 0 [.b (kn:Int),.s op,.slice oa on oc,.i ov,.bool os,.bool oe,.slice pa pn pc]):=cE (dA YX.out iG.out.1.drew (by have:=H1.out.2.1;omega));have HDO:=cE (YA w2.drew);refine tF (.p (w.heap.size+1)) [{target:=.fn (.func 182) #[.p (w.heap.size+1)],args:=#[]}] (fun c w'=>c=[{v:=Yu (lN root M who ⟨J2,op,gj,over,sV,sW⟩),recovered:=false}]∧lN root M who ⟨J2,op,gj,over,sV,sW⟩≠0∧cF w1 w') ?_ ?_
 ·rintro chain a w' h1 h2 ⟨rfl,hx,hb⟩
  change Leaves _ _ a.tmps _ a.defers _ w'
  rw[h2];obtain⟨de,hs1,k0,k1,_⟩:=H1.out;have ht1:w'.there (w.heap.size+1) 0 13:=ei ((hb.block _ cL).trans k1) cN;have K9:Kept (·=w.heap.size+1) w' (w'.setCells (w.heap.size+1) 0 [.i (lN root M who ⟨J2,op,gj,over,sV,sW⟩),.z,.n,.U,.U,.U,.I,.U,.V,.V,.V,.n,.n]):=Kept.setCells (S:=(·=w.heap.size+1)) (p:=w.heap.size+1) rfl _ 0 (Kept.refl _ w');have dz:cF w w':=de.trans (hb.mono de.size);exact zA h1 ht1 (.inr ⟨hx,rfl,dz.trans (K9.below dz.size (fun k e=>by have e:k=w.heap.size+1:=e;omega))⟩)
 refine aE (S:=fun w'=>aF w' w.heap.size 0 [.b (kn:Int),.s op,.slice oa on oc,.i ov,.bool os,.bool oe,.slice pa pn pc]) cK RX.out (fun hS=>?_);have yk:∀w',aF w' w.heap.size 0 [.b (kn:Int),.s op,.slice oa on oc,.i ov,.bool os,.bool oe,.slice pa pn pc]→w'.cell? ⟨w.heap.size,0,none⟩=some (.b (kn:Int)):=fun w' h=>h 0 _ rfl
 refine iZ 1 rfl cK cK cK cO hS (fun w' hS'=>by go_simp<;>rfl) (fun _ _ _ h=>gT cM h) ?_;simp only[cQ];refine iZ 2 rfl cK cK cK cO hS (fun w' hS'=>by have:=yk w' hS';go_simp<;>rfl) (fun _ _ _ h=>gT cM h) ?_;simp only[cQ];refine iZ 4 rfl cK cK cK cO hS (fun w' hS'=>by go_simp<;>rfl) (fun _ _ _ h=>gT cM h) ?_;simp only[cQ];refine DE 5 rfl cK cK cK cO hS 35 (.tmp 3) rfl w.heap.size 0 rfl [.b (kn:Int),.s op,.slice oa on oc,.i ov,.bool os,.bool oe,.slice pa pn pc] _ (fun _ h=>h) underlying35 rfl qP.out (fun _ _ _ h=>gT cM h) ?_;simp only[cQ];refine cI 0 rfl ?_;refine HDO.out.mono ?_;rintro e w3 ⟨mb,rfl,HT,hmb,xE⟩;have B3:cF w2 w3:=(ag _ w2).drew.trans xE;have B13:cF w1 w3:=iG.out.1.trans (B3.mono iG.out.1.size);have dU:aF w3 w.heap.size 0 [.b (kn:Int),.s op,.slice oa on oc,.i ov,.bool os,.bool oe,.slice pa pn pc]:=dA YX.out B13 (by have:=H1.out.2.1;omega);have hlk:(Instr.lookup 247 (.map (some mb)) (.b (kn:Int)) false).run prog w3=.ok (.func (.func f) #[] #[]) w3:=by
  obtain⟨l,hl⟩:=TI HFF.out;have h:=dL.lookup HT iW eA underlying247 aaG (a:=kn) hl;rw[HFF.out] at h;exact h
 have H3:=cE (cD B3 B13);have MY:=cE (HM.out iG.out.2 w3 (H1.out.1.trans (B13.mono H1.out.1.size)));clear B3 xE B13 HT hmb;refine⟨dU,?_⟩
 try dsimp only
 simp only[cQ];refine sM 3 rfl cK cO (.func (.func f) #[] #[]) w3 (by have:=hlk;go_simp<;>first|rfl|exact⟨rfl,rfl⟩) dU ?_;clear hlk;simp only[cQ];refine On 6 rfl cK cO _ _ (by have:=Jd;go_simp<;>first|rfl|exact⟨rfl,rfl⟩) ?_;refine MY.out.mono ?_;rintro e w5 (⟨hx0,cnt2,c1,c2,OD⟩|⟨hx,rfl,B5⟩)
 rotate_left
 ·unfold fH
  exact⟨rfl,rfl,rfl,hx,H3.out.2.trans (B5.mono H3.out.2.size)⟩
 obtain⟨v5,L5,⟨ra,rn,rc,⟨r1,r2,r3,r4,r5,r6,r7,r8⟩⟩,ka,kc,he,_⟩:=OD.ret;subst he;have HOD:=cE OD;have hs1:=H1.out.2.1;have ake:=H3.out.2.size;have hvl:∀k,v.ownBlock=some k→k<w.heap.size:=fun k h=>(HD.out.1.row.own.lt k h).2
 have iQ:=HD.out.1.tree.lt;have hnk:∀k,w.heap.size≤k→¬(k=b∨k=d∨v.ownBlock=some k):=fun k hk h=>by
  rcases h with h|h|h
  ·omega
  ·omega
  have:=hvl k h;omega
 have oP:aF w5 w.heap.size 0 [.b (kn:Int),.s op,.slice oa on oc,.i ov,.bool os,.bool oe,.slice pa pn pc]:=fun j u hu=>(OD.kept.cell (p:=⟨w.heap.size,0+j,none⟩) (by show w.heap.size<w3.heap.size;omega) (hnk _ (aB _))).trans (dU j u hu)
 have kb3:=(H3.out.2.block (w.heap.size+1) cL).trans H1.out.2.2.2.1;have RN:w5.there (w.heap.size+1) 0 13:=ei ((OD.kept.block (w.heap.size+1) cL (hnk _ (bg _))).trans kb3) cN;have uU:=cE (cD kb3 RN);have HNK:=cE (cD hvl iQ);clear OD kb3 RN hs1 ake hvl iQ hnk;obtain⟨px,hpx⟩:=cG ((C3 root M at_ who ⟨J2,op,gj,over,sV,sW⟩).path);obtain⟨kl,hkl⟩:=cG ((C3 root M at_ who ⟨J2,op,gj,over,sV,sW⟩).kids.length);rw[←hpx,←hkl] at HOD;rw[←hpx,←hkl];clear hpx hkl;unfold ez Raw.cells eL.cells
 try dsimp only[aL,aN]
 refine⟨oP,?_⟩
 try dsimp only
 simp only[cQ];have gu:Hid ((#[.I,.s px,.slice ra rn rc,.u r1,.u r2,.u r3,.i r4,.u r5,.v r6,.v r7,.v r8,.slice ka kl kc,.n]:Array an).all (·.oneCell')=true):=cE (by simp[au]);refine sI 7 rfl 47 (.tmp 4) (.tmp 21) (w.heap.size+1) 0 #[.I,.s px,.slice ra rn rc,.u r1,.u r2,.u r3,.i r4,.u r5,.v r6,.v r7,.v r8,.slice ka kl kc,.n] uU.out.2 mg.out gu.out (mS oP cL) ?_;simp only[cQ];refine aO cK ?_ _;simp only[xq];go_wp2_with fail
 refine Gr rfl (ah _ _ _ _ uU.out.2) rfl (.inl ⟨hx0,cnt2,c1,c2,?_⟩);exact HOD.out.box (H1.out.1.trans (H3.out.2.mono H1.out.1.size)) (bg _) (by have:=H1.out.2.1;have:=H3.out.2.size;omega) uU.out.1 hdl HNK.out.2 HNK.out.1 HD.out.1.tree.bl.size _
end
end
