/- Part 27. -/
import Derived.Test.YtdpaejbaoefdjaaGreatDoorG25
import Derived.WalkLawsBesides
import Derived.Test.YtdpaejbaoefdjaaGreatDoorG17
open Go renaming heap_alloc_new → aa,cell_of_row → af,World → aj,Value → an,wpList_load_mid → aA,wpList_store_mid → aC,wp_region_held_drew → aE,Calls → aI,bodyPost_ret → aJ,heap_alloc_old → aK,wpAnyH_done → aO,undef → aT,TypeId → aU,Addr → aV,Ending → aW,PanicEntry → aY,maxLen → bq,wpS_region → bz,results_none → bC
open Go.RowKit.Below renaming refl → ag
open Go.World renaming rangeAt_setCells_same → ah,rangeAt → aF,frozen? → aG,size_alloc → aH,setCell → aM
open Nat renaming lt_of_lt_of_le → aq,zero_add → ay,le_refl → aB,le_trans → aS,le_of_lt → aX,le_succ → bg
open Go.Value renaming oneCell' → au
open Array renaming getElem?_modify → aD,replicate → aZ
open List renaming cons_append → aL,nil_append → aN,length_append → aP,getElem?_append_right → aQ,getElem?_append_left → aR,take_of_length_le → bu,mem_of_getElem? → bA,flatMap_cons → bF
open Go.Exit renaming thenS → bh
open Option renaming getD_some → bB
open Go.Instr renaming typeAssert → bG
namespace Go.Proofs.YtdpaejbaoefdjaaGreatDoor
open Go.Proofs.Tryz
set_option maxRecDepth 100000
set_option maxHeartbeats 64000000
set_option linter.unusedVariables false
set_option linter.unusedSimpArgs false
section
open Go.RowKit Go.Shelf Go.MapKept Go.ChangeMaps Go.Maps Go.Sort
def WQ(x:Int):an:=.iface 25 (.i x)
def fR(x:Int):aW:=.panicked [{v:=WQ x,recovered:=false}]
theorem vE(x:Int)(w:aj):aI prog 183 #[.T,.i x] w fun e w'=>e=.returned (.tuple #[])∧w'=w:=by
 go_enter func183,ntmps183
 go_wp2
 (try simp only[Exit.inBlock,Exit.then]);refine bodyPost_end (bC rfl _ _ _) rfl ?_
 exact⟨rfl,rfl⟩
theorem ER(x:Int)(w:aj):aI prog 183 #[.F,.i x] w fun e w'=>e=fR x∧w'=w:=by
 go_enter func183,ntmps183
 go_wp2
 exact⟨rfl,rfl,rfl⟩
theorem Mj(s n:Int)(w:aj):(binOp .eql 31 (.agg #[.i s,.u n]) (.agg #[.I,.U])).run prog w=.ok (.bool (iq s n)) w:=by
 unfold iq;by_cases h1:s=0<;>by_cases h2:n=0<;>simp[go_sem,h1,h2]
theorem Mg(s n:Int)(w:aj):(binOp .neq 31 (.agg #[.i s,.u n]) (.agg #[.I,.U])).run prog w=.ok (.bool (!iq s n)) w:=by
 unfold iq;by_cases h1:s=0<;>by_cases h2:n=0<;>simp[go_sem,h1,h2]
structure di where
 kind:Int
 cW:cO
 da:Option aV
 dn:Nat
 dc:Nat
 gW:Int
 seq:Bool
 mV:Bool
 pa:Option aV
 pn:Nat
 pc:Nat
def di.cells(r:di):List an:=[.b r.kind,.s r.cW,.slice r.da r.dn r.dc,.i r.gW,.bool r.seq,.bool r.mV,.slice r.pa r.pn r.pc]
def di.val(r:di):an:=.agg r.cells.toArray
structure fo(w:aj)(lo:Nat→Prop)(r:di)(o:fh):Prop where
 kind:r.kind=o.kind
 cW:r.cW=o.cW
 gW:r.gW=o.gW
 seq:r.seq=o.seq
 mV:r.mV=o.mV
 len:r.dn=o.data.length
 data:eP w lo w.heap.size r.da o.data
 nil:r.da=none→o.data=[]∧r.dc=0
theorem fo.below{w w':aj}{lo:Nat→Prop}{r:di}{o:fh}(h:fo w lo r o)(hb:cE w w'):fo w' lo r o:=⟨h.kind,h.cW,h.gW,h.seq,h.mV,h.len,(h.data.below hb).mono (fun _ h=>h) hb.size,h.nil⟩
theorem fo.both{w:aj}{lo lo':Nat→Prop}{q:di}{x:fh}(h:fo w lo q x)(hl:∀b,lo b→b<w.heap.size→lo' b):fo w lo' q x:=
 ⟨h.kind,h.cW,h.gW,h.seq,h.mV,h.len,fun j c hj=>by
  obtain⟨b,off,h1,h2,h3,h4⟩:=h.data j c hj;exact⟨b,off,h1,hl b h2 h3,h3,h4⟩,h.nil⟩
structure dx(X:Nat→Prop)(w0 w:aj)(d b:Nat)(cP:cO)(cS cnt:Int)(M:List (cO×Nd))(dh:eF)(v:an)(L:List dr)(E:List gm):Prop where
 tree:TR w0 w b cP cnt M
 blk:w.heap[d]?=some (.cells #[.p b,.v cS,.i dh.dy,.u dh.n,v] 158 (0,0))
 row:yf w w0.heap.size v L E
 hd:w0.heap.size≤d
 inv:Inv cP M
 Ar:ff w (fun k=>v.ownBlock≠some k∧¬X k) L E
 old:∀k,X k→k<w.heap.size
 mG:∃lo mb,dN w lo b mb cP cnt M∧∀k,lo k→(v.ownBlock≠some k∧k≠d)∧¬X k
theorem dx.c0{X:Nat→Prop}{w0 w:aj}{d b:Nat}{cP:cO}{cS cnt:Int}{M:List (cO×Nd)}{dh:eF}{v:an}{L:List dr}{E:List gm}(D:dx X w0 w d b cP cS cnt M dh v L E):w.cell? ⟨d,0,none⟩=some (.p b):=af _ _ 0 _ 158 (0,0) D.blk
theorem tK{w1:aj}{B:Nat}(h:w1.heap[B]?=some (.cells #[.n,.U,.U,.U,.I,.U,.V,.V,.V] 44 (0,0))):w1.there B 0 9:=by
 intro j hj;refine⟨?_,by simp[aG,h]⟩;rw[ay,af _ _ j _ 44 (0,0) h];rcases(show j=0∨j=1∨j=2∨j=3∨j=4∨j=5∨j=6∨j=7∨j=8 by omega) with rfl|rfl|rfl|rfl|rfl|rfl|rfl|rfl|rfl<;>rfl
theorem xV(w2:aj)(cs:List an)(t:aU):(w2.alloc (.cells cs.toArray t)).rangeAt w2.heap.size 0 cs:=fun j u hu=>by
 rw[ay,af _ _ j _ t (0,0) (aa w2 _)];simpa using hu
theorem mg{w w4:aj}{B:Nat}(hb:cE w w4)(hB:w.heap.size≤B)(cs:List an):cE w (w4.setCells B 0 cs):=
 hb.trans ((cQ.setCells (S:=(·=B)) (p:=B) rfl cs 0 (cQ.refl _ w4)).below hb.size (fun k e=>by have e:k=B:=e;omega))
theorem Reads.cells{w4:aj}{lo:Nat→Prop}{r:Raw}{nd:Nd}(h:Reads w4 lo r nd){B:Nat}(hn:∀k,lo k→k≠B)(cs:List an):Reads (w4.setCells B 0 cs) lo r nd:=by
 have hk:cQ (·=B) w4 (w4.setCells B 0 cs):=cQ.setCells (S:=(·=B)) (p:=B) rfl cs 0 (cQ.refl _ w4);exact⟨h.num,h.len,(h.data.kept hk (aB _) (fun b hb _ _=>hn b hb)).mono (fun _ h=>h) hk.size,h.nil⟩
theorem od.cells{n:Nat}{w4:aj}{a:Option aV}(h:od n w4 a){B:Nat}(hn:B<n)(cs:List an):od n (w4.setCells B 0 cs) a:=by
 have hk:cQ (·=B) w4 (w4.setCells B 0 cs):=cQ.setCells (S:=(·=B)) (p:=B) rfl cs 0 (cQ.refl _ w4);exact h.kept hk (fun k hk e=>by have e:k=B:=e;omega)
section
variable{X:Nat→Prop}{w0 w:World}{d b:Nat}{cP:cO}{cS cnt:Int}{M:List (cO×Nd)}{dh:eF}{v:Value}{L:List dr}{E:List gm}
theorem dx.lt(D:dx X w0 w d b cP cS cnt M dh v L E):d<w.heap.size:=lt_of_block D.blk
theorem dx.sy(D:dx X w0 w d b cP cS cnt M dh v L E)(p:cO)(hp:p.length≤1000){nd:Nd}(h:dL p M=some nd):
  aI prog 320 #[.p d,.s p] w fun e w'=>∃r:Raw,e=.returned r.val∧Reads w' (fU w.heap.size) r nd∧cE w w'∧od w.heap.size w' r.a:=by
 obtain⟨w1,hw1⟩:=cF (w.alloc (.cells #[.n,.U,.U,.U,.I,.U,.V,.V,.V] 44));have dB:cE w w1:=by rw[hw1];exact cT (ag _ w) _
 have hs1:w1.heap.size=w.heap.size+1:=by rw[hw1];simp
 have k1:w1.heap[w.heap.size]?=some (.cells #[.n,.U,.U,.U,.I,.U,.V,.V,.V] 44 (0,0)):=by rw[hw1];exact aa w _
 have c0:w1.cell? ⟨d,0,none⟩=some (.p b):=(dB.cell (p:=⟨d,0,none⟩) D.lt).trans D.c0;have hg:=(D.tree.below dB).get p (by unfold bq;omega);rw[h] at hg;have HG:=cD hg;have H1:=cD (cC dB (cC hs1 (cC k1 hw1)));have fm:Hid (cG 44 9):=cD cJ;clear D hg h dB hs1 k1 hw1;go_enter func320,ntmps320
 go_wp2_with (rw[←H1.out.2.2.2])
 refine HG.out.mono ?_;rintro e w2 ⟨r,rfl,hrd,B2,hfree⟩;obtain⟨ra,rn,rc,⟨r1,r2,r3,r4,r5,r6,r7,r8⟩⟩:=r;unfold Raw.val Raw.cells eU.cells;dsimp only[Option.isSome_some,bB] at hrd⊢;obtain⟨w3,kJ⟩:=cF (w2.alloc (.cells #[.slice ra rn rc,.u r1,.u r2,.u r3,.i r4,.u r5,.v r6,.v r7,.v r8] 44));have eO:cE w2 w3:=by rw[kJ];exact cT (ag _ w2) _
 have DD:w3.rangeAt w2.heap.size 0 [.slice ra rn rc,.u r1,.u r2,.u r3,.i r4,.u r5,.v r6,.v r7,.v r8]:=by rw[kJ];exact xV w2 [.slice ra rn rc,.u r1,.u r2,.u r3,.i r4,.u r5,.v r6,.v r7,.v r8] 44
 have iU:cE w1 w3:=B2.trans (eO.mono B2.size);have Kr:w3.there w.heap.size 0 9:=tK ((iU.block _ (by have:=H1.out.2.1;omega)).trans H1.out.2.2.1);have H3:=cD (cC DD (cC Kr (cC iU (cC hrd (cC hfree (cC eO kJ))))));clear DD Kr iU hrd hfree B2 eO kJ;have gG:Hid ((#[.slice ra rn rc,.u r1,.u r2,.u r3,.i r4,.u r5,.v r6,.v r7,.v r8]:Array an).all (·.oneCell')=true):=cD (by simp[au]);go_wp2_with (rw[←H3.out.2.2.2.2.2.2])
 refine(vE 31 w3).mono ?_;rintro e w4 ⟨rfl,rfl⟩;go_wp2_with (first
  |(refine aA rfl 44 (.tmp 5) rfl w2.heap.size 0 rfl [.slice ra rn rc,.u r1,.u r2,.u r3,.i r4,.u r5,.v r6,.v r7,.v r8] _ H3.out.1 underlying44 rfl fm.out ?_)
  |(refine aC rfl 44 (.tmp 4) (.tmp 18) rfl w.heap.size 0 #[.slice ra rn rc,.u r1,.u r2,.u r3,.i r4,.u r5,.v r6,.v r7,.v r8] rfl rfl H3.out.2.1 fm.out gG.out ?_))
 refine aJ (dz rfl _ _ w.heap.size 0 [.slice ra rn rc,.u r1,.u r2,.u r3,.i r4,.u r5,.v r6,.v r7,.v r8] _ rfl (ah _ _ _ _ H3.out.2.1) underlying44 rfl fm.out) rfl ?_;obtain⟨_,_,g3,g4,g5,g6,_⟩:=H3.out;have hs1:=H1.out.2.1;refine⟨⟨ra,rn,rc,⟨r1,r2,r3,r4,r5,r6,r7,r8⟩⟩,rfl,?_,?_,?_⟩
 ·exact((g4.below g6).cells (fun k hk e=>by have hk:w1.heap.size≤k:=hk;omega) _).mono (fun k hk=>by have hk:w1.heap.size≤k:=hk;show w.heap.size≤k;omega)
 ·exact mg (H1.out.1.trans (g3.mono H1.out.1.size)) (aB _) _
 exact((g5.below g6).cells cK _).mono cK
theorem dx.xw(D:dx X w0 w d b cP cS cnt M dh v L E)(p:cO)(hp:p.length≤1000)(h:dL p M=none):
  aI prog 320 #[.p d,.s p] w fun e w'=>e=fR 31∧cE w w':=by
 obtain⟨w1,hw1⟩:=cF (w.alloc (.cells #[.n,.U,.U,.U,.I,.U,.V,.V,.V] 44));have dB:cE w w1:=by rw[hw1];exact cT (ag _ w) _
 have c0:w1.cell? ⟨d,0,none⟩=some (.p b):=(dB.cell (p:=⟨d,0,none⟩) D.lt).trans D.c0;have hg:=(D.tree.below dB).get p (by unfold bq;omega);rw[h] at hg;have HG:=cD hg;have H1:=cD (cC dB hw1);clear D hg h dB hw1;go_enter func320,ntmps320
 go_wp2_with (rw[←H1.out.2])
 refine HG.out.mono ?_;rintro e w2 ⟨r,rfl,hrd,B2,hfree⟩;obtain⟨ra,rn,rc,⟨r1,r2,r3,r4,r5,r6,r7,r8⟩⟩:=r;unfold Raw.val Raw.cells eU.cells;dsimp only[Option.isSome_none];have iK:=cD (H1.out.1.trans (B2.mono H1.out.1.size));clear B2 hrd hfree;go_wp2_with fail
 refine(ER 31 _).mono ?_;rintro e w4 ⟨rfl,rfl⟩;unfold fR;go_wp2
 exact⟨rfl,rfl,cT iK.out _⟩
theorem dx.below(D:dx X w0 w d b cP cS cnt M dh v L E){w':aj}(hb:cE w w'):dx X w0 w' d b cP cS cnt M dh v L E:=
 ⟨D.tree.below hb,(hb.block d D.lt).trans D.blk,⟨lE D.row.own hb,D.row.like.below hb⟩,D.hd,D.inv,D.Ar.below hb,fun k h=>aq (D.old k h) hb.size,by
  obtain⟨lo,mb,T,h⟩:=D.mG;exact⟨lo,mb,T.below hb,h⟩⟩
theorem dx.Jt(D:dx X w0 w d b cP cS cnt M dh v L E)(r:di)(hp:r.cW.length≤1000){nd:Nd}(h:dL r.cW M=some nd)(hv:¬(0≤r.gW∧r.gW≠IntKind.i64.wrap nd.num.gW)):
  aI prog 296 #[.p d,r.val] w fun e w'=>∃r':Raw,e=.returned r'.val∧Reads w' (fU w.heap.size) r' nd∧cE w w'∧od w.heap.size w' r'.a:=by
 obtain⟨ok,op,oa,on,oc,ov,os,oe,pa,pn,pc⟩:=r;unfold di.val di.cells;dsimp only at hp h hv⊢;obtain⟨w1,hw1⟩:=cF ((w.alloc (.cells #[.b ok,.s op,.slice oa on oc,.i ov,.bool os,.bool oe,.slice pa pn pc] 35)).alloc (.cells #[.n,.U,.U,.U,.I,.U,.V,.V,.V] 44));have dB:cE w w1:=by rw[hw1];exact cT (cT (ag _ w) _) _
 have hs1:w1.heap.size=w.heap.size+2:=by rw[hw1];simp
 have k0:w1.heap[w.heap.size]?=some (.cells #[.b ok,.s op,.slice oa on oc,.i ov,.bool os,.bool oe,.slice pa pn pc] 35 (0,0)):=by rw[hw1];exact(aK _ _ cM).trans (aa w _)
 have k1:w1.heap[w.heap.size+1]?=some (.cells #[.n,.U,.U,.U,.I,.U,.V,.V,.V] 44 (0,0)):=by
  have:=aa (w.alloc (.cells #[.b ok,.s op,.slice oa on oc,.i ov,.bool os,.bool oe,.slice pa pn pc] 35)) (.cells #[.n,.U,.U,.U,.I,.U,.V,.V,.V] 44);rw[aH] at this;rw[hw1];exact this
 have y1:w1.cell? ⟨w.heap.size,1,none⟩=some (.s op):=af _ _ 1 _ 35 (0,0) k0;have D1:dx X w0 w1 d b cP cS cnt M dh v L E:=D.below dB;have hg:=D1.sy op hp h;have HG:=cD hg;have H1:=cD (cC dB (cC hs1 (cC k0 (cC k1 hw1))));have fm:Hid (cG 44 9):=cD cJ;have HV:=cD hv;clear D D1 hg h dB hs1 k0 k1 hw1 hv;go_enter func296,ntmps296
 go_wp2_with (rw[←H1.out.2.2.2.2])
 refine HG.out.mono ?_;rintro e w2 ⟨r,rfl,hrd,B2,hfree⟩;obtain⟨ra,rn,rc,⟨r1,r2,r3,r4,r5,r6,r7,r8⟩⟩:=r;unfold Raw.val Raw.cells eU.cells;dsimp only;obtain⟨w3,kJ⟩:=cF (w2.alloc (.cells #[.slice ra rn rc,.u r1,.u r2,.u r3,.i r4,.u r5,.v r6,.v r7,.v r8] 44));have eO:cE w2 w3:=by rw[kJ];exact cT (ag _ w2) _
 have DD:w3.rangeAt w2.heap.size 0 [.slice ra rn rc,.u r1,.u r2,.u r3,.i r4,.u r5,.v r6,.v r7,.v r8]:=by rw[kJ];exact xV w2 [.slice ra rn rc,.u r1,.u r2,.u r3,.i r4,.u r5,.v r6,.v r7,.v r8] 44
 have iU:cE w1 w3:=B2.trans (eO.mono B2.size);have Kr:w3.there (w.heap.size+1) 0 9:=tK ((iU.block _ (by have:=H1.out.2.1;omega)).trans H1.out.2.2.2.1);have y3:w3.cell? ⟨w.heap.size,3,none⟩=some (.i ov):=(iU.cell (p:=⟨w.heap.size,3,none⟩) (by have:=H1.out.2.1;show w.heap.size<_;omega)).trans (af _ _ 3 _ 35 (0,0) H1.out.2.2.1);have z1:w3.cell? ⟨w2.heap.size,1,none⟩=some (.u r1):=DD 1 _ rfl;have pJ:r1=nd.num.gW:=by have:=congrArg eU.gW hrd.num;exact this
 have H3:=cD (cC DD (cC Kr (cC iU (cC hrd (cC hfree (cC eO kJ))))));have HNV:=cD pJ;clear DD Kr iU hrd hfree B2 eO kJ pJ;have gG:Hid ((#[.slice ra rn rc,.u r1,.u r2,.u r3,.i r4,.u r5,.v r6,.v r7,.v r8]:Array an).all (·.oneCell')=true):=cD (by simp[au]);obtain⟨wv,ZV⟩:=cF (IntKind.i64.wrap r1);have HWV:=cD ZV;have twv:∀_:True,IntKind.i64.wrap r1=wv:=fun _=>ZV.symm
 clear ZV;by_cases hneg:ov<0
 ·have t1:decide (ov<0)=true:=by simpa using hneg
  clear hneg;go_wp2_with (rw[←H3.out.2.2.2.2.2.2])
  refine(vE 35 w3).mono ?_;rintro e w4 ⟨rfl,rfl⟩;go_wp2_with (first
   |(refine aA rfl 44 (.tmp 5) rfl w2.heap.size 0 rfl [.slice ra rn rc,.u r1,.u r2,.u r3,.i r4,.u r5,.v r6,.v r7,.v r8] _ H3.out.1 underlying44 rfl fm.out ?_)
   |(refine aC rfl 44 (.tmp 4) (.tmp 22) rfl (w.heap.size+1) 0 #[.slice ra rn rc,.u r1,.u r2,.u r3,.i r4,.u r5,.v r6,.v r7,.v r8] rfl rfl H3.out.2.1 fm.out gG.out ?_))
  refine aJ (dz rfl _ _ (w.heap.size+1) 0 [.slice ra rn rc,.u r1,.u r2,.u r3,.i r4,.u r5,.v r6,.v r7,.v r8] _ rfl (ah _ _ _ _ H3.out.2.1) underlying44 rfl fm.out) rfl ?_;obtain⟨_,_,g3,g4,g5,g6,_⟩:=H3.out;have hs1:=H1.out.2.1;refine⟨⟨ra,rn,rc,⟨r1,r2,r3,r4,r5,r6,r7,r8⟩⟩,rfl,?_,?_,?_⟩
  ·exact((g4.below g6).cells (fun k hk e=>by have hk:w1.heap.size≤k:=hk;omega) _).mono (fun k hk=>by have hk:w1.heap.size≤k:=hk;show w.heap.size≤k;omega)
  ·exact mg (H1.out.1.trans (g3.mono H1.out.1.size)) cK _
  exact((g5.below g6).cells cK _).mono cK
 have t1:decide (ov<0)=false:=by simpa using hneg
 have t2:(ov==wv)=true:=by
  have h1:=HV.out;rw[←HNV.out,←HWV.out] at h1;have h2:ov=wv:=Decidable.byContradiction fun hne=>h1 ⟨by omega,hne⟩
  rw[h2];simp
 clear hneg;go_wp2_with (rw[←H3.out.2.2.2.2.2.2])
 refine(vE 35 w3).mono ?_;rintro e w4 ⟨rfl,rfl⟩;go_wp2_with (first
  |(refine aA rfl 44 (.tmp 5) rfl w2.heap.size 0 rfl [.slice ra rn rc,.u r1,.u r2,.u r3,.i r4,.u r5,.v r6,.v r7,.v r8] _ H3.out.1 underlying44 rfl fm.out ?_)
  |(refine aC rfl 44 (.tmp 4) (.tmp 22) rfl (w.heap.size+1) 0 #[.slice ra rn rc,.u r1,.u r2,.u r3,.i r4,.u r5,.v r6,.v r7,.v r8] rfl rfl H3.out.2.1 fm.out gG.out ?_))
 refine aJ (dz rfl _ _ (w.heap.size+1) 0 [.slice ra rn rc,.u r1,.u r2,.u r3,.i r4,.u r5,.v r6,.v r7,.v r8] _ rfl (ah _ _ _ _ H3.out.2.1) underlying44 rfl fm.out) rfl ?_;obtain⟨_,_,g3,g4,g5,g6,_⟩:=H3.out;have hs1:=H1.out.2.1;refine⟨⟨ra,rn,rc,⟨r1,r2,r3,r4,r5,r6,r7,r8⟩⟩,rfl,?_,?_,?_⟩
 ·exact((g4.below g6).cells (fun k hk e=>by have hk:w1.heap.size≤k:=hk;omega) _).mono (fun k hk=>by have hk:w1.heap.size≤k:=hk;show w.heap.size≤k;omega)
 ·exact mg (H1.out.1.trans (g3.mono H1.out.1.size)) cK _
 exact((g5.below g6).cells cK _).mono cK
theorem dx.U7(D:dx X w0 w d b cP cS cnt M dh v L E)(r:di)(hp:r.cW.length≤1000){nd:Nd}(h:dL r.cW M=some nd)(hv:0≤r.gW∧r.gW≠IntKind.i64.wrap nd.num.gW):
  aI prog 296 #[.p d,r.val] w fun e w'=>e=fR 35∧cE w w':=by
 obtain⟨ok,op,oa,on,oc,ov,os,oe,pa,pn,pc⟩:=r;unfold di.val di.cells;dsimp only at hp h hv⊢;obtain⟨w1,hw1⟩:=cF ((w.alloc (.cells #[.b ok,.s op,.slice oa on oc,.i ov,.bool os,.bool oe,.slice pa pn pc] 35)).alloc (.cells #[.n,.U,.U,.U,.I,.U,.V,.V,.V] 44));have dB:cE w w1:=by rw[hw1];exact cT (cT (ag _ w) _) _
 have hs1:w1.heap.size=w.heap.size+2:=by rw[hw1];simp
 have k0:w1.heap[w.heap.size]?=some (.cells #[.b ok,.s op,.slice oa on oc,.i ov,.bool os,.bool oe,.slice pa pn pc] 35 (0,0)):=by rw[hw1];exact(aK _ _ cM).trans (aa w _)
 have k1:w1.heap[w.heap.size+1]?=some (.cells #[.n,.U,.U,.U,.I,.U,.V,.V,.V] 44 (0,0)):=by
  have:=aa (w.alloc (.cells #[.b ok,.s op,.slice oa on oc,.i ov,.bool os,.bool oe,.slice pa pn pc] 35)) (.cells #[.n,.U,.U,.U,.I,.U,.V,.V,.V] 44);rw[aH] at this;rw[hw1];exact this
 have y1:w1.cell? ⟨w.heap.size,1,none⟩=some (.s op):=af _ _ 1 _ 35 (0,0) k0;have D1:dx X w0 w1 d b cP cS cnt M dh v L E:=D.below dB;have hg:=D1.sy op hp h;have HG:=cD hg;have H1:=cD (cC dB (cC hs1 (cC k0 (cC k1 hw1))));have fm:Hid (cG 44 9):=cD cJ;have HV:=cD hv;clear D D1 hg h dB hs1 k0 k1 hw1 hv;go_enter func296,ntmps296
 go_wp2_with (rw[←H1.out.2.2.2.2])
 refine HG.out.mono ?_;rintro e w2 ⟨r,rfl,hrd,B2,hfree⟩;obtain⟨ra,rn,rc,⟨r1,r2,r3,r4,r5,r6,r7,r8⟩⟩:=r;unfold Raw.val Raw.cells eU.cells;dsimp only;obtain⟨w3,kJ⟩:=cF (w2.alloc (.cells #[.slice ra rn rc,.u r1,.u r2,.u r3,.i r4,.u r5,.v r6,.v r7,.v r8] 44));have eO:cE w2 w3:=by rw[kJ];exact cT (ag _ w2) _
 have DD:w3.rangeAt w2.heap.size 0 [.slice ra rn rc,.u r1,.u r2,.u r3,.i r4,.u r5,.v r6,.v r7,.v r8]:=by rw[kJ];exact xV w2 [.slice ra rn rc,.u r1,.u r2,.u r3,.i r4,.u r5,.v r6,.v r7,.v r8] 44
 have iU:cE w1 w3:=B2.trans (eO.mono B2.size);have Kr:w3.there (w.heap.size+1) 0 9:=tK ((iU.block _ (by have:=H1.out.2.1;omega)).trans H1.out.2.2.2.1);have y3:w3.cell? ⟨w.heap.size,3,none⟩=some (.i ov):=(iU.cell (p:=⟨w.heap.size,3,none⟩) (by have:=H1.out.2.1;show w.heap.size<_;omega)).trans (af _ _ 3 _ 35 (0,0) H1.out.2.2.1);have z1:w3.cell? ⟨w2.heap.size,1,none⟩=some (.u r1):=DD 1 _ rfl;have pJ:r1=nd.num.gW:=by have:=congrArg eU.gW hrd.num;exact this
 have H3:=cD (cC DD (cC Kr (cC iU (cC hrd (cC hfree (cC eO kJ))))));have HNV:=cD pJ;clear DD Kr iU hrd hfree B2 eO kJ pJ;have gG:Hid ((#[.slice ra rn rc,.u r1,.u r2,.u r3,.i r4,.u r5,.v r6,.v r7,.v r8]:Array an).all (·.oneCell')=true):=cD (by simp[au]);obtain⟨wv,ZV⟩:=cF (IntKind.i64.wrap r1);have HWV:=cD ZV;have twv:∀_:True,IntKind.i64.wrap r1=wv:=fun _=>ZV.symm
 clear ZV;have t1:decide (ov<0)=false:=by
  have:=HV.out.1;simpa using this
 have t2:(ov==wv)=false:=by
  have h1:=HV.out.2;rw[←HNV.out,←HWV.out] at h1;simpa using h1
 have mQ:=cD (H1.out.1.trans (H3.out.2.2.1.mono H1.out.1.size));go_wp2_with (rw[←H3.out.2.2.2.2.2.2])
 refine(ER 35 w3).mono ?_;rintro e w4 ⟨rfl,rfl⟩;unfold fR;go_wp2
 exact⟨rfl,rfl,mQ.out⟩
theorem dx.QL(D:dx X w0 w d b cP cS cnt M dh v L E)(r:di)(hp:r.cW.length≤1000)(h:dL r.cW M=none):
  aI prog 296 #[.p d,r.val] w fun e w'=>e=fR 31∧cE w w':=by
 obtain⟨ok,op,oa,on,oc,ov,os,oe,pa,pn,pc⟩:=r;unfold di.val di.cells;dsimp only at hp h⊢;obtain⟨w1,hw1⟩:=cF ((w.alloc (.cells #[.b ok,.s op,.slice oa on oc,.i ov,.bool os,.bool oe,.slice pa pn pc] 35)).alloc (.cells #[.n,.U,.U,.U,.I,.U,.V,.V,.V] 44));have dB:cE w w1:=by rw[hw1];exact cT (cT (ag _ w) _) _
 have hs1:w1.heap.size=w.heap.size+2:=by rw[hw1];simp
 have k0:w1.heap[w.heap.size]?=some (.cells #[.b ok,.s op,.slice oa on oc,.i ov,.bool os,.bool oe,.slice pa pn pc] 35 (0,0)):=by rw[hw1];exact(aK _ _ cM).trans (aa w _)
 have k1:w1.heap[w.heap.size+1]?=some (.cells #[.n,.U,.U,.U,.I,.U,.V,.V,.V] 44 (0,0)):=by
  have:=aa (w.alloc (.cells #[.b ok,.s op,.slice oa on oc,.i ov,.bool os,.bool oe,.slice pa pn pc] 35)) (.cells #[.n,.U,.U,.U,.I,.U,.V,.V,.V] 44);rw[aH] at this;rw[hw1];exact this
 have y1:w1.cell? ⟨w.heap.size,1,none⟩=some (.s op):=af _ _ 1 _ 35 (0,0) k0;have D1:dx X w0 w1 d b cP cS cnt M dh v L E:=D.below dB;have hg:=D1.xw op hp h;have HG:=cD hg;have H1:=cD (cC dB hw1);clear D D1 hg h dB hs1 k0 k1 hw1;go_enter func296,ntmps296
 go_wp2_with (rw[←H1.out.2])
 refine HG.out.mono ?_;rintro e w2 ⟨rfl,B2⟩;have iK:=cD (H1.out.1.trans (B2.mono H1.out.1.size));clear B2;unfold fR;go_wp2
 exact⟨rfl,rfl,iK.out⟩
end
theorem eE{w1:aj}{B n:Nat}{cs:Array an}{t:aU}(h:w1.heap[B]?=some (.cells cs t (0,0)))(hn:n≤cs.size):w1.there B 0 n:=fun j hj=>by
 refine⟨?_,by simp[aG,h]⟩;rw[ay,af _ _ j _ t (0,0) h,Array.getElem?_eq_getElem cK];rfl
def eL(x:Int)(p:cO)(r:Raw)(ka:Option aV)(kn kc:Nat)(pa:Option aV)(pn pc:Nat):List an:=.i x::.s p::(r.cells++[.slice ka kn kc,.slice pa pn pc])
section
variable{X:Nat→Prop}{w0 w:World}{d b:Nat}{cP:cO}{cS cnt:Int}{M:List (cO×Nd)}{dh:eF}{v:Value}{L:List dr}{E:List gm}
theorem dx.c1(D:dx X w0 w d b cP cS cnt M dh v L E):w.cell? ⟨d,1,none⟩=some (.v cS):=af _ _ 1 _ 158 (0,0) D.blk
theorem dx.si(D:dx X w0 w d b cP cS cnt M dh v L E)(p:cO)(hp:p.length≤1000){nd:Nd}(h:dL p M=some nd):
  aI prog 295 #[.p d,.s p] w fun e w'=>∃r:Raw,e=.returned (.agg (eL 0 p r none 0 0 none 0 0).toArray)∧Reads w' (fU w.heap.size) r nd∧cE w w'∧od w.heap.size w' r.a:=by
 obtain⟨w1,hw1⟩:=cF (w.alloc (.cells #[.I,.z,.n,.U,.U,.U,.I,.U,.V,.V,.V,.n,.n] 47));have dB:cE w w1:=by rw[hw1];exact cT (ag _ w) _
 have hs1:w1.heap.size=w.heap.size+1:=by rw[hw1];simp
 have k1:w1.heap[w.heap.size]?=some (.cells #[.I,.z,.n,.U,.U,.U,.I,.U,.V,.V,.V,.n,.n] 47 (0,0)):=by rw[hw1];exact aa w _
 have hg:=(D.below dB).sy p hp h;have HG:=cD hg;have H1:=cD (cC dB (cC hs1 (cC k1 hw1)));have fm:Hid (cG 47 13):=cD cJ;clear D hg h dB hs1 k1 hw1;go_enter func295,ntmps295
 go_wp2_with (rw[←H1.out.2.2.2])
 refine HG.out.mono ?_;rintro e w2 ⟨r,rfl,hrd,B2,hfree⟩;obtain⟨ra,rn,rc,⟨r1,r2,r3,r4,r5,r6,r7,r8⟩⟩:=r;unfold Raw.val Raw.cells eU.cells;dsimp only;have ht2:w2.there w.heap.size 0 13:=eE ((B2.block _ (by have:=H1.out.2.1;omega)).trans H1.out.2.2.1) cM;have H2:=cD (cC ht2 (cC B2 (cC hrd hfree)));clear ht2 B2 hrd hfree;have gG:Hid ((#[.I,.s p,.slice ra rn rc,.u r1,.u r2,.u r3,.i r4,.u r5,.v r6,.v r7,.v r8,.n,.n]:Array an).all (·.oneCell')=true):=cD (by simp[au]);go_wp2_with (refine aC rfl 47 (.tmp 4) (.tmp 9) rfl w.heap.size 0 #[.I,.s p,.slice ra rn rc,.u r1,.u r2,.u r3,.i r4,.u r5,.v r6,.v r7,.v r8,.n,.n] rfl rfl H2.out.1 fm.out gG.out ?_)
 refine aJ (dz rfl _ _ w.heap.size 0 [.I,.s p,.slice ra rn rc,.u r1,.u r2,.u r3,.i r4,.u r5,.v r6,.v r7,.v r8,.n,.n] _ rfl (ah _ _ _ _ H2.out.1) underlying47 rfl fm.out) rfl ?_;obtain⟨_,g2,g3,g4⟩:=H2.out;have hs1:=H1.out.2.1;refine⟨⟨ra,rn,rc,⟨r1,r2,r3,r4,r5,r6,r7,r8⟩⟩,rfl,?_,?_,?_⟩
 ·exact(g3.cells (fun k hk e=>by have hk:w1.heap.size≤k:=hk;omega) _).mono (fun k hk=>by have hk:w1.heap.size≤k:=hk;show w.heap.size≤k;omega)
 ·exact mg (H1.out.1.trans (g2.mono H1.out.1.size)) (aB _) _
 exact(g4.cells cK _).mono cK
theorem dx.told_none(D:dx X w0 w d b cP cS cnt M dh v L E)(p:cO)(hp:p.length≤1000)(h:dL p M=none):
  aI prog 295 #[.p d,.s p] w fun e w'=>e=fR 31∧cE w w':=by
 obtain⟨w1,hw1⟩:=cF (w.alloc (.cells #[.I,.z,.n,.U,.U,.U,.I,.U,.V,.V,.V,.n,.n] 47));have dB:cE w w1:=by rw[hw1];exact cT (ag _ w) _
 have hg:=(D.below dB).xw p hp h;have HG:=cD hg;have H1:=cD (cC dB hw1);clear D hg h dB hw1;go_enter func295,ntmps295
 go_wp2_with (rw[←H1.out.2])
 refine HG.out.mono ?_;rintro e w2 ⟨rfl,B2⟩;have iK:=cD (H1.out.1.trans (B2.mono H1.out.1.size));clear B2;unfold fR;go_wp2
 exact⟨rfl,rfl,iK.out⟩
theorem dx.Er(D:dx X w0 w d b cP cS cnt M dh v L E)(hm:dM w)(p:cO)(hp:p.length≤1000)(h:dL (dm p) M=none):
  aI prog 293 #[.p d,.s p] w fun e w'=>e=fR 31∧cE w w':=by
 obtain⟨w1,hw1⟩:=cF (w.alloc (.cells #[.z,.F,.n,.U,.U,.U,.I,.U,.V,.V,.V] 93));have dB:cE w w1:=by rw[hw1];exact cT (ag _ w) _
 have HP:=cD (mM w1 (hm.kept dB) p hp);have hpl:(dm p).length≤1000:=kD p hp;have HN:Hid (∀w',cE w1 w'→aI prog 320 #[.p d,.string (bs (dm p))] w' fun e w''=>e=fR 31∧cE w' w''):=cD fun w' hb=>(((D.below dB).below hb).xw (dm p) hpl h)
 have H1:=cD (cC dB hw1);clear D h dB hw1 hm;go_enter func293,ntmps293
 go_wp2_with (rw[←H1.out.2])
 refine(HP.out _ (ag _ _)).mono ?_;rintro e w2 ⟨rfl,B2⟩;have iK:=cD B2;clear B2;go_wp2_with fail
 refine(HN.out _ iK.out).mono ?_;rintro e w3 ⟨rfl,B3⟩;have mQ:=cD (H1.out.1.trans ((iK.out.trans (B3.mono iK.out.size)).mono H1.out.1.size));clear B3;unfold fR;go_wp2
 exact⟨rfl,rfl,mQ.out⟩
theorem dx.uU(D:dx X w0 w d b cP cS cnt M dh v L E)(hm:dM w)(p:cO)(hp:p.length≤1000){u:Nd}(h:dL (dm p) M=some u):
  aI prog 293 #[.p d,.s p] w fun e w'=>∃r:Raw,e=.returned (dr.val ⟨dm p,false,r⟩)∧Reads w' (fU w.heap.size) r (Cg u cS)∧cE w w'∧od w.heap.size w' r.a:=by
 obtain⟨w1,hw1⟩:=cF (w.alloc (.cells #[.z,.F,.n,.U,.U,.U,.I,.U,.V,.V,.V] 93));have dB:cE w w1:=by rw[hw1];exact cT (ag _ w) _
 have hs1:w1.heap.size=w.heap.size+1:=by rw[hw1];simp
 have k1:w1.heap[w.heap.size]?=some (.cells #[.z,.F,.n,.U,.U,.U,.I,.U,.V,.V,.V] 93 (0,0)):=by rw[hw1];exact aa w _
 have HP:=cD (mM w1 (hm.kept dB) p hp);have hpl:(dm p).length≤1000:=kD p hp;have HN:Hid (∀w',cE w1 w'→aI prog 320 #[.p d,.string (bs (dm p))] w' fun e w''=>∃r:Raw,e=.returned r.val∧Reads w'' (fU w'.heap.size) r u∧cE w' w''∧od w'.heap.size w'' r.a):=cD fun w' hb=>(((D.below dB).below hb).sy (dm p) hpl h)
 have hdl:d<w.heap.size:=D.lt;have HD:=cD ((dB.cell (p:=⟨d,1,none⟩) D.lt).trans D.c1);have H1:=cD (cC dB (cC hs1 (cC k1 hw1)));have fm:Hid (cG 44 9):=cD cJ;have Cb:Hid (cG 93 11):=cD cJ;clear D h dB hs1 k1 hw1 hm;go_enter func293,ntmps293
 go_wp2_with (rw[←H1.out.2.2.2])
 refine(HP.out _ (ag _ _)).mono ?_;rintro e w2 ⟨rfl,B2⟩;have iK:=cD B2;clear B2;go_wp2_with fail
 refine(HN.out _ iK.out).mono ?_;rintro e w3 ⟨r,rfl,hrd,B3,hfree⟩;obtain⟨ra,rn,rc,⟨r1,r2,r3,r4,r5,r6,r7,r8⟩⟩:=r;unfold Raw.val Raw.cells eU.cells;dsimp only;obtain⟨w4,lP⟩:=cF (w3.alloc (.cells #[.slice ra rn rc,.u r1,.u r2,.u r3,.i r4,.u r5,.v r6,.v r7,.v r8] 44));have hb4:cE w3 w4:=by rw[lP];exact cT (ag _ w3) _
 have k4:w4.heap[w3.heap.size]?=some (.cells #[.slice ra rn rc,.u r1,.u r2,.u r3,.i r4,.u r5,.v r6,.v r7,.v r8] 44 (0,0)):=by rw[lP];exact aa w3 _
 have Pd:cE w1 w4:=iK.out.trans ((B3.trans (hb4.mono B3.size)).mono iK.out.size);have hs3:w1.heap.size≤w3.heap.size:=aS iK.out.size B3.size;obtain⟨k2,hk2⟩:=cF (IntKind.u32.wrap (r2+1));have tk:∀_:True,IntKind.u32.wrap (r2+1)=k2:=fun _=>hk2.symm
 have z2:w4.cell? ⟨w3.heap.size,2,none⟩=some (.u r2):=af _ _ 2 _ 44 (0,0) k4;have f2:w4.frozen? ⟨w3.heap.size,2,none⟩=false:=by simp[aG,k4]
 have f8:w4.frozen? ⟨w3.heap.size,8,none⟩=false:=by simp[aG,k4]
 obtain⟨w5,nI⟩:=cF (w4.setCell ⟨w3.heap.size,2,none⟩ (.u k2));have k5:w5.heap[w3.heap.size]?=some (.cells #[.slice ra rn rc,.u r1,.u k2,.u r3,.i r4,.u r5,.v r6,.v r7,.v r8] 44 (0,0)):=by
  rw[nI];simp[aM,aD,k4]
 have kp5:cQ (·=w3.heap.size) w4 w5:=by rw[nI];exact cQ.setCell (S:=(·=w3.heap.size)) (p:=⟨w3.heap.size,2,none⟩) (cQ.refl _ w4) rfl _
 have z8:w5.cell? ⟨w3.heap.size,8,none⟩=some (.v r8):=af _ _ 8 _ 44 (0,0) k5;have g8:w5.frozen? ⟨w3.heap.size,8,none⟩=false:=by simp[aG,k5]
 have zd:w5.cell? ⟨d,1,none⟩=some (.v cS):=(kp5.cell (p:=⟨d,1,none⟩) (by show d<w4.heap.size;have:=Pd.size;have:=H1.out.2.1;omega) (fun e=>by have e:d=w3.heap.size:=e;have:=H1.out.2.1;omega)).trans ((Pd.cell (p:=⟨d,1,none⟩) (by show d<w1.heap.size;have:=H1.out.2.1;omega)).trans HD.out);obtain⟨w6,mU⟩:=cF (w5.setCell ⟨w3.heap.size,8,none⟩ (.v cS));have k6:w6.heap[w3.heap.size]?=some (.cells #[.slice ra rn rc,.u r1,.u k2,.u r3,.i r4,.u r5,.v r6,.v r7,.v cS] 44 (0,0)):=by
  rw[mU];simp[aM,aD,k5]
 have kp6:cQ (·=w3.heap.size) w4 w6:=kp5.trans (by rw[mU];exact cQ.setCell (S:=(·=w3.heap.size)) (p:=⟨w3.heap.size,8,none⟩) (cQ.refl _ w5) rfl _);have Qp:w6.rangeAt w3.heap.size 0 [.slice ra rn rc,.u r1,.u k2,.u r3,.i r4,.u r5,.v r6,.v r7,.v cS]:=fun j u hu=>by
  rw[ay,af _ _ j _ 44 (0,0) k6];simpa using hu
 have Qn:w6.there w.heap.size 0 11:=eE ((kp6.block _ (by have:=Pd.size;have:=H1.out.2.1;omega) (fun e=>by have:=H1.out.2.1;omega)).trans ((Pd.block _ (by have:=H1.out.2.1;omega)).trans H1.out.2.2.1)) cM;have H6:=cD (cC Qp (cC Qn (cC kp6 (cC Pd (cC hrd (cC hfree (cC hb4 (cC hs3 hk2))))))));have HW:=cD (cC lP (cC nI mU));have HBS:=cD iK.out.size;clear Qp Qn kp6 Pd hrd hfree hb4 hs3 hk2 lP nI mU k4 k5 k6 kp5 B3;have gG:Hid ((#[.string (bs (dm p)),.F,.slice ra rn rc,.u r1,.u k2,.u r3,.i r4,.u r5,.v r6,.v r7,.v cS]:Array an).all (·.oneCell')=true):=cD (by simp[au]);go_wp2_with (first
  |(rw[←HW.out.1])
  |(rw[←HW.out.2.1])
  |(rw[←HW.out.2.2];refine aA rfl 44 (.tmp 6) rfl w3.heap.size 0 rfl [.slice ra rn rc,.u r1,.u k2,.u r3,.i r4,.u r5,.v r6,.v r7,.v cS] _ H6.out.1 underlying44 rfl fm.out ?_)
  |(refine aC rfl 93 (.tmp 4) (.tmp 23) rfl w.heap.size 0 #[.string (bs (dm p)),.F,.slice ra rn rc,.u r1,.u k2,.u r3,.i r4,.u r5,.v r6,.v r7,.v cS] rfl rfl H6.out.2.1 Cb.out gG.out ?_))
 refine aJ (dz rfl _ _ w.heap.size 0 [.string (bs (dm p)),.F,.slice ra rn rc,.u r1,.u k2,.u r3,.i r4,.u r5,.v r6,.v r7,.v cS] _ rfl (ah _ _ _ _ H6.out.2.1) underlying93 rfl Cb.out) rfl ?_;obtain⟨_,_,g3,g4,g5,g6,g7,g8,g9⟩:=H6.out;have hs1:=H1.out.2.1;have hs2:=HBS.out;have Wr:cQ (·=w3.heap.size) w3 w6:=(cQ.eT g7).trans g3;have pJ:=g5.num;refine⟨⟨ra,rn,rc,⟨r1,k2,r3,r4,r5,r6,r7,cS⟩⟩,rfl,?_,?_,?_⟩
 ·have h1:Reads w6 (fU w2.heap.size) ⟨ra,rn,rc,⟨r1,k2,r3,r4,r5,r6,r7,cS⟩⟩ (Cg u cS):=by
   refine⟨?_,g5.len,((g5.data.kept Wr (aB _) (fun b hb hl _ e=>by have e:b=w3.heap.size:=e;omega)).mono (fun _ h=>h) Wr.size),g5.nil⟩;unfold Cg vM;rw[←pJ,g9]
  exact(h1.cells (fun k hk e=>by have hk:w2.heap.size≤k:=hk;omega) _).mono (fun k hk=>by have hk:w2.heap.size≤k:=hk;show w.heap.size≤k;omega)
 ·exact mg (H1.out.1.trans ((g4.trans (g3.below g4.size (fun k e=>by have e:k=w3.heap.size:=e;omega))).mono H1.out.1.size)) (aB _) _
 have hf6:od w2.heap.size w6 ra:=fun ad e=>by
  obtain⟨q1,q2,q3⟩:=g6 ad e;exact⟨q1,aq q2 Wr.size,fun j=>(Wr.frozen (p:=⟨ad.block,j,none⟩) q2 (fun e=>by have e:ad.block=w3.heap.size:=e;omega)).trans (q3 j)⟩
 exact(hf6.cells cK _).mono cK
end
theorem eP.ot{w w':aj}{lo:Nat→Prop}{hi b:Nat}{a:Option aV}{D:cO}(h:eP w lo hi a D){cs:Array an}{t:aU}{fr:Nat×Nat}(hb:w.heap[b]?=some (.cells cs t fr))(hu:∀x∈cs.toList,∀n,x≠.b n)(hk:cQ (·=b) w w')(hw:hi≤w.heap.size):eP w' lo hi a D:=fun j c hj=>by
 obtain⟨g,off,h1,h2,h3,h4⟩:=h j c hj;refine⟨g,off,h1,h2,h3,(hk.cell (p:=⟨g,off+j,none⟩) (aq h3 hw) (fun e=>?_)).trans h4⟩;have e:g=b:=e;subst e;rw[af _ _ (off+j) _ t fr hb] at h4;exact hu _ (by simpa using Array.mem_of_getElem? h4) _ rfl
theorem ff.ot{w w':aj}{lo:Nat→Prop}{b:Nat}{L:List dr}{E:List gm}(h:ff w lo L E){cs:Array an}{t:aU}{fr:Nat×Nat}(hb:w.heap[b]?=some (.cells cs t fr))(hu:∀x∈cs.toList,∀n,x≠.b n)(hk:cQ (·=b) w w'):ff w' lo L E:=⟨h.1,fun k r e h1 h2=>by
 obtain⟨g1,g2,g3⟩:=h.2 k r e h1 h2;exact⟨g1,g2,g3.num,g3.len,(g3.data.ot hb hu hk (aB _)).mono (fun _ h=>h) hk.size,g3.nil⟩⟩
theorem ff.dZ{w w':aj}{S lo:Nat→Prop}{L:List dr}{E:List gm}(h:ff w lo L E)(hk:cQ S w w')(hn:∀b,lo b→¬S b):ff w' lo L E:=⟨h.1,fun k r e h1 h2=>by
 obtain⟨g1,g2,g3⟩:=h.2 k r e h1 h2;exact⟨g1,g2,g3.num,g3.len,(g3.data.kept hk (aB _) (fun b hb _ _=>hn b hb)).mono (fun _ h=>h) hk.size,g3.nil⟩⟩
theorem ff.both{w:aj}{lo lo':Nat→Prop}{L:List dr}{E:List gm}(h:ff w lo L E)(hl:∀k,lo k→k<w.heap.size→lo' k):ff w lo' L E:=⟨h.1,fun k r e h1 h2=>by
 obtain⟨g1,g2,g3⟩:=h.2 k r e h1 h2;exact⟨g1,g2,g3.num,g3.len,fun j c hj=>by
  obtain⟨b,off,q1,q2,q3,q4⟩:=g3.data j c hj;exact⟨b,off,q1,hl b q2 q3,q3,q4⟩,g3.nil⟩⟩
theorem ff.append{w:aj}{lo:Nat→Prop}{L L2:List dr}{E E2:List gm}(h:ff w lo L E)(h2:ff w lo L2 E2):ff w lo (L++L2) (E++E2):=⟨by rw[aP,aP,h.1,h2.1],fun k r e h3 h4=>by
 have hl:=h.1;by_cases hk:k<L.length
 ·rw[aR hk] at h3
  rw[aR cK] at h4;exact h.2 k r e h3 h4
 ·rw[aQ cK] at h3
  rw[aQ cK,←hl] at h4;exact h2.2 (k - L.length) r e h3 h4⟩
theorem fA{w w':aj}{S:Nat→Prop}{base size n:Nat}{e:aU}{v:an}{xs:List an}(h:w.ownsRow base e size v n xs)(hk:cQ S w w')(hn:∀g,v.ownBlock=some g→¬S g):w'.ownsRow base e size v n xs:=by
 refine⟨h.1,?_⟩;rcases h.2 with h1|⟨g,cap,cur,h1,h2,h3,h4⟩
 ·exact .inl h1
 exact .inr ⟨g,cap,cur,h1,h2,(hk.block g (lt_of_block h3) (hn g (by rw[h1];rfl))).trans h3,h4⟩
theorem iX{w:aj}{base size n:Nat}{e t:aU}{v:an}{xs:List an}(h:w.ownsRow base e size v n xs){b:Nat}{cs:Array an}{fr:Nat×Nat}(hb:w.heap[b]?=some (.cells cs t fr))(ht:t≠e):v.ownBlock≠some b:=fun e1=>by
 rcases h.2 with ⟨h1,_⟩|⟨g,cap,cur,h1,h2,h3,h4⟩
 ·rw[h1] at e1;cases e1
 ·rw[h1] at e1
  have:g=b:=by cases e1;rfl
  subst this;rw[hb] at h3;cases h3;exact ht rfl
theorem JW(R:List dr):∀u∈R.flatMap dr.cells,u.oneCell'=true:=fun u hu=>by
 obtain⟨r,_,h⟩:=List.mem_flatMap.1 hu;obtain⟨p,g,a,n,c,v1,v2,v3,v4,v5,v6,v7,v8⟩:=r;simp[dr.cells,Raw.cells,eU.cells] at h;rcases h with rfl|rfl|rfl|rfl|rfl|rfl|rfl|rfl|rfl|rfl|rfl<;>rfl
theorem DR:∀R:List dr,(R.flatMap dr.cells).length=R.length*11
 |[]=>rfl
 |x::R=>by
  rw[bF,aP,lV,DR R,List.length_cons];omega
theorem DS:∀(R:List dr) (j:Nat) (u:an),(R.flatMap dr.cells)[j]?=some u→∃k r i,R[k]?=some r∧r.cells[i]?=some u∧j=k*11+i
 |[],j,u,h=>by simp at h
 |x::R,j,u,h=>by
  rw[bF] at h;by_cases hj:j<11
  ·rw[aR (by rw[lV];exact hj)] at h
   exact⟨0,x,j,rfl,h,by omega⟩
  ·rw[aQ (by rw[lV];omega),lV] at h
   obtain⟨k,r,i,h1,h2,h3⟩:=DS R (j - 11) u h;exact⟨k+1,r,i,by simpa using h1,h2,by omega⟩
theorem gH.flat{w:aj}{B b off:Nat}{R:List dr}(h:gH w B (some ⟨b,off,none⟩) R):∀j u,(R.flatMap dr.cells)[j]?=some u→w.cell? ((⟨b,off,none⟩:aV).add j)=some u:=fun j u hu=>by
 obtain⟨k,r,i,h1,h2,rfl⟩:=DS R j u hu;obtain⟨b',off',e,_,h4⟩:=h k r h1;cases e;rw[Addr.add_mid,show off+(k*11+i)=off+k*11+i by omega];exact h4 i u h2
section
variable{X:Nat→Prop}{w0 w:World}{d b:Nat}{cP:cO}{cS cnt:Int}{M:List (cO×Nd)}{dh:eF}{v:Value}{L:List dr}{E:List gm}
theorem dx.ne(D:dx X w0 w d b cP cS cnt M dh v L E):d≠b:=fun e=>by
 subst e;obtain⟨lo,mb,T,_⟩:=D.mG;have:=T.blk;rw[D.blk] at this;cases this
theorem QK(x:aV)(a s n:Int)(v:an)(hv:∃p q r,v=.slice p q r):∀y∈(#[Value.pointer (some x),.v a,.i s,.u n,v]:Array an).toList,∀m,y≠.b m:=by
 obtain⟨p,q,r,rfl⟩:=hv;intro y hy m;simp at hy;rcases hy with rfl|rfl|rfl|rfl|rfl<;>simp
theorem NA(s:ByteArray)(a:Int)(mb:Option Nat):∀y∈(#[Value.string s,.v a,.map mb]:Array an).toList,∀m,y≠.b m:=by
 intro y hy m;simp at hy;rcases hy with rfl|rfl|rfl<;>simp
end
structure fG where
 kind:Int
 dn:Nat
 pn:Nat
def fG.bad(i:fG):Bool:=decide (i.kind<1)||decide (7≤i.kind)||decide (0<i.pn)
def fG.long(i:fG):Bool:=decide (64<i.dn)
def gF(kind:Int)(dn:Nat)(P:List fG):Int:=
 if kind<1∨7<kind∨6<P.length∨(decide (kind=7)≠decide (0<P.length)) then 1
 else if P.any fG.bad=true then 1 else if 64<dn∨P.any fG.long=true then 3 else 0
theorem kS{kind:Int}{dn:Nat}{P:List fG}(h:kind<1∨7<kind∨6<P.length∨(decide (kind=7)≠decide (0<P.length))):gF kind dn P=1:=if_pos h
theorem BG{kind:Int}{dn:Nat}{P:List fG}(h:P.any fG.bad=true):gF kind dn P=1:=by
 unfold gF;split
 ·rfl
 rfl
theorem II{kind:Int}{dn:Nat}{Q:List fG}(hk:kind≠7):(gF kind dn Q=1∧fG.bad ⟨kind,dn,Q.length⟩=true)∨(gF kind dn Q=3∧fG.bad ⟨kind,dn,Q.length⟩=false∧fG.long ⟨kind,dn,Q.length⟩=true)∨(gF kind dn Q=0∧fG.bad ⟨kind,dn,Q.length⟩=false∧fG.long ⟨kind,dn,Q.length⟩=false):=by
 by_cases h:kind<1∨7<kind∨0<Q.length
 ·refine .inl ⟨kS ?_,?_⟩
  ·rcases h with h|h|h
   ·exact .inl h
   ·exact .inr (.inl h)
   refine .inr (.inr (.inr ?_));rw[decide_eq_false hk,decide_eq_true h];simp
  unfold fG.bad;rcases h with h|h|h
  ·simp[h]
  ·simp[show 7≤kind by omega]
  simp[h]
 have hQ:Q=[]:=List.eq_nil_of_length_eq_zero cK;subst hQ;have hb:fG.bad ⟨kind,dn,0⟩=false:=by
  unfold fG.bad;simp;omega
 have he:gF kind dn []=if 64<dn then 3 else 0:=by
  unfold gF;rw[if_neg,if_neg cM]
  ·simp
  simp;omega
 by_cases hd:64<dn
 ·exact .inr (.inl ⟨by rw[he,if_pos hd],hb,by simp[fG.long,hd]⟩)
 exact .inr (.inr ⟨by rw[he,if_neg hd],hb,by simp[fG.long];omega⟩)
def BN(w:aj):Nat→Option aV→List fG→Prop
 |0,_,P=>P=[]
 |n+1,pa,P=>∀(k:Nat) i,P[k]?=some i→∃(b off:Nat) (r:di) (Q:List fG),pa=some ⟨b,off,none⟩∧b<w.heap.size∧w.rangeAt b (off+k*7) r.cells∧i=⟨r.kind,r.dn,r.pn⟩∧r.pn=Q.length∧r.dn≤bq∧BN w n r.pa Q
theorem BN.below{w w':aj}(hb:cE w w'):∀{n:Nat} {pa:Option aV} {P:List fG},BN w n pa P→BN w' n pa P
 |0,_,_,h=>h
 |n+1,pa,P,h=>fun k i hk=>by
  obtain⟨b,off,r,Q,h1,h2,h3,h4,h5,h6,h7⟩:=h k i hk;exact⟨b,off,r,Q,h1,aq h2 hb.size,dR h3 hb h2,h4,h5,h6,h7.below hb⟩
def oF(w:aj)(x:Int)(e:aW)(w':aj):Prop:=e=.returned (.i x)∧cE w w'
def Xg(w:aj)(pa:Option aV)(P:List fG):Prop:=∀(k:Nat) i,P[k]?=some i→∃(b off:Nat) (r:di) (Q:List fG),pa=some ⟨b,off,none⟩∧b<w.heap.size∧w.rangeAt b (off+k*7) r.cells∧i=⟨r.kind,r.dn,r.pn⟩∧r.pn=Q.length∧∀w',cE w w'→aI prog 29 #[r.val] w' (oF w' (gF r.kind r.dn Q))
def af3(w1:aj)(P:List fG)(k:Nat)(wr:aj):Prop:=cE w1 wr∧(P.take k).any fG.bad=false
theorem any_succ{f:fG→Bool}{P:List fG}{k:Nat}{i:fG}(h:P[k]?=some i):(P.take (k+1)).any f=((P.take k).any f||f i):=by
 rw[List.take_add_one,h];simp
theorem BF(w:aj)(r:di)(P:List fG)(hn:r.pn=P.length)(H:Xg w r.pa P)(hdn:r.dn≤bq):
  aI prog 29 #[r.val] w (oF w (gF r.kind r.dn P)):=by
 obtain⟨kind,cW,da,dn,dc,gW,seq,mV,pa,pn,pc⟩:=r;unfold di.val di.cells;dsimp only at hn H hdn⊢;unfold bq at hdn;obtain⟨w1,hw1⟩:=cF (w.alloc (.cells #[.b kind,.s cW,.slice da dn dc,.i gW,.bool seq,.bool mV,.slice pa pn pc] 35));have dB:cE w w1:=by rw[hw1];exact cT (ag _ w) _
 have hs1:w.heap.size<w1.heap.size:=by rw[hw1];simp
 have aej:w1.rangeAt w.heap.size 0 [.b kind,.s cW,.slice da dn dc,.i gW,.bool seq,.bool mV,.slice pa pn pc]:=fun j u hu=>by
  rw[hw1,ay,af _ _ j _ 35 (0,0) (aa w _)];simpa using hu
 have jT:=cD (cC dB aej);have HH:=cD H;have HNP:=cD hn;clear H dB aej;obtain⟨lg,hlg⟩:=cF (decide (64<dn));have tl:decide ((64:Int)<(dn:Int))=lg:=by rw[hlg];simp;omega
 by_cases h1:kind<1
 ·have hE:gF kind dn P=1:=kS (.inl h1)
  rw[hE];have t1:decide (kind<1)=true:=by simpa using h1
  clear hE h1 hn hlg;go_enter func29,ntmps29
  go_wp2
  go_ret
  rw[←hw1];exact⟨rfl,jT.out.1⟩
 have t1:decide (kind<1)=false:=by simpa using h1
 by_cases h2:7<kind
 ·have hE:gF kind dn P=1:=kS (.inr (.inl h2))
  rw[hE];have t2:decide ((7:Int)<kind)=true:=by simpa using h2
  clear hE h2 h1 hn hlg;go_enter func29,ntmps29
  go_wp2
  go_ret
  rw[←hw1];exact⟨rfl,jT.out.1⟩
 have t2:decide ((7:Int)<kind)=false:=by simpa using h2
 by_cases h3:6<pn
 ·have hE:gF kind dn P=1:=kS (.inr (.inr (.inl (by rw[←hn];exact h3))))
  rw[hE];have t3:decide ((6:Int)<(pn:Int))=true:=by simp;omega
  clear hE h2 h1 h3 hn hlg;go_enter func29,ntmps29
  go_wp2
  go_ret
  rw[←hw1];exact⟨rfl,jT.out.1⟩
 have t3:decide ((6:Int)<(pn:Int))=false:=by simp;omega
 obtain⟨b7,nY⟩:=cF (decide (kind=7));obtain⟨b0,hb0⟩:=cF (decide (0<pn));have t4:(kind==7)=b7:=by rw[nY];by_cases h:kind=7<;>simp[h]
 have t5:decide (0<pn)=b0:=hb0.symm;by_cases h4:b7=b0
 ·have hne:¬(kind<1∨7<kind∨6<P.length∨(decide (kind=7)≠decide (0<P.length))):=by
   rw[←hn];rintro(h|h|h|h)
   ·exact h1 h
   ·exact h2 h
   ·exact h3 h
   exact h (by rw[←nY,←hb0];exact h4)
  have HNE:=cD hne;have ad0:lg=decide (64<dn):=hlg;have HLG:=cD ad0;clear hne hn hlg ad0 nY hb0;subst h4;have MQ:pn≤6:=by omega
  clear h1 h2 h3;go_enter func29,ntmps29
  go_wp2
  rw[←hw1];clear hw1;go_loopw [3,39] (fun lv ci wr=>∃k:Nat,k≤pn∧ci=.i k∧lv=.bool (lg||(P.take k).any fG.long)∧Hid (af3 w1 P k wr)) (fun _ ci _=>pn - (intOf ci).toNat)
  case atStart=>exact⟨0,by omega,rfl,by simp,cD ⟨ag _ _,by simp⟩⟩
  obtain⟨k,hk,rfl,rfl,HS⟩:=hrel;by_cases hlt:k<pn
  ·obtain⟨i,hi⟩:∃i,P[k]?=some i:=⟨_,List.getElem?_eq_getElem (by rw[←HNP.out];exact hlt)⟩
   obtain⟨b,off,⟨k',p',da',dn',dc',v',sq',ep',pa',pn',Vx⟩,Q,hpa,gQ,fS,hie,hq,SK⟩:=HH.out k i hi;dsimp only at hie hq SK;subst hpa;have hbig:cE w wr:=jT.out.1.trans (HS.out.1.mono (aX hs1));have hc0:wr.cell? ⟨w.heap.size,6,none⟩=some (.slice (some ⟨b,off,none⟩) pn pc):=(HS.out.1.cell (p:=⟨w.heap.size,6,none⟩) hs1).trans (jT.out.2 6 _ rfl);have hr2:=dR fS hbig gQ;have nT:Hid (wr.rangeAt b (off+k*7) [.b k',.s p',.slice da' dn' dc',.i v',.bool sq',.bool ep',.slice pa' pn' Vx]):=cD hr2;obtain⟨w2,fH⟩:=cF (wr.alloc (.cells #[.b k',.s p',.slice da' dn' dc',.i v',.bool sq',.bool ep',.slice pa' pn' Vx] 35));have dI:cE wr w2:=by rw[fH];exact cT (ag _ wr) _
   have hx2:w2.rangeAt wr.heap.size 0 [.b k',.s p',.slice da' dn' dc',.i v',.bool sq',.bool ep',.slice pa' pn' Vx]:=fun j u hu=>by
    rw[fH,ay,af _ _ j _ 35 (0,0) (aa wr _)];simpa using hu
   have hl2:wr.heap.size<w2.heap.size:=by rw[fH];simp
   have hcl:=SK w2 (hbig.trans (dI.mono hbig.size));unfold di.val di.cells at hcl;dsimp only at hcl;have afm:Hid (cG 35 7):=cD cJ;obtain⟨x,hx⟩:=cF (gF k' dn' Q);rw[←hx] at hcl;have pT:=cD hcl;have FI:=cD (cC hx2 (cC dI fH));have HI:=cD (cC hi (cC hie (cC hq hx)));have aoq:IntKind.i64.wrap ((k:Int)+1)=((k+1:Nat):Int):=by rw[IntWalk.i64_in _ cK];omega
   clear hi hie hq hx SK hcl hbig hr2 fS dI hx2 fH;have XN:∀f:fG→Bool,(P.take (k+1)).any f=((P.take k).any f||f i):=fun f=>any_succ HI.out.1
   have HSU:=cD XN;clear XN;go_wp2_with (first
    |(refine aA rfl 35 (.tmp 41) rfl b (off+k*7) rfl [.b k',.s p',.slice da' dn' dc',.i v',.bool sq',.bool ep',.slice pa' pn' Vx] _ nT.out underlying35 rfl afm.out ?_)
    |(rw[←FI.out.2.2];refine aA rfl 35 (.tmp 5) rfl wr.heap.size 0 rfl [.b k',.s p',.slice da' dn' dc',.i v',.bool sq',.bool ep',.slice pa' pn' Vx] _ FI.out.1 underlying35 rfl afm.out ?_))
   refine pT.out.mono ?_;rintro e w3 ⟨rfl,B3⟩;have y0:w3.cell? ⟨wr.heap.size,0,none⟩=some (.b k'):=(B3.cell (p:=⟨wr.heap.size,0,none⟩) hl2).trans (FI.out.1 0 _ rfl);have eO:cE w1 w3:=HS.out.1.trans ((FI.out.2.1.trans (B3.mono FI.out.2.1.size)).mono HS.out.1.size);have mQ:=cD eO;have hbi:=HI.out.2.1;clear B3 eO;by_cases h7:k'=7
   ·have t7:(k'==7)=true:=by rw[h7];rfl
    have hE:gF kind dn P=1:=BG (List.any_eq_true.2 ⟨i,bA HI.out.1,by rw[hbi];simp[fG.bad,h7]⟩);have HE:=cD hE;clear hE h7 hbi;go_wp2
    go_ret
    exact⟨by rw[HE.out];rfl,jT.out.1.trans (mQ.out.mono (aX hs1))⟩
   have t7:(k'==7)=false:=by simpa using h7
   have hpart:=II (kind:=k') (dn:=dn') (Q:=Q) h7;rw[←HI.out.2.2.2,←HI.out.2.2.1,←hbi] at hpart;clear h7 hbi;rcases hpart with ⟨hx,hb⟩|⟨hx,hb,hl⟩|⟨hx,hb,hl⟩
   ·have hE:gF kind dn P=1:=BG (List.any_eq_true.2 ⟨i,bA HI.out.1,hb⟩)
    have HE:=cD hE;subst hx;clear hE hb;go_wp2
    go_ret
    exact⟨by rw[HE.out];rfl,jT.out.1.trans (mQ.out.mono (aX hs1))⟩
   ·have FM:=cD (cC hb hl)
    subst hx;clear hb hl;go_wp2
    go_roundw
    case rel=>exact⟨k+1,by omega,by go_num,by rw[HSU.out,FM.out.2];simp,cD ⟨mQ.out,by rw[HSU.out,FM.out.1,HS.out.2];rfl⟩⟩
    case measure=>simp[intOf];omega
   have FM:=cD (cC hb hl);subst hx;clear hb hl;go_wp2
   go_roundw
   case rel=>exact⟨k+1,by omega,by go_num,by rw[HSU.out,FM.out.2];simp,cD ⟨mQ.out,by rw[HSU.out,FM.out.1,HS.out.2];rfl⟩⟩
   case measure=>simp[intOf];omega
  obtain rfl:pn=k:=by omega
  obtain⟨hbe,hnb⟩:=HS.out;rw[bu (by rw[←HNP.out];exact aB _)] at hnb;obtain⟨al,hal⟩:=cF ((lg||(P.take pn).any fG.long));rw[←hal];have hE:gF kind dn P=if al=true then 3 else 0:=by
   rw[bu (by rw[←HNP.out];exact aB _)] at hal;unfold gF;rw[if_neg HNE.out,if_neg (by rw[hnb];simp),hal,HLG.out];simp
  have HE:=cD hE;have Ul:=cD hbe;clear hE hal hnb hbe;cases al
  all_goals
   go_wp2
   go_ret
   exact⟨by rw[HE.out];rfl,jT.out.1.trans (Ul.out.mono (aX hs1))⟩
 have hE:gF kind dn P=1:=kS (.inr (.inr (.inr (by rw[←hn,←nY,←hb0];exact h4))));rw[hE];have tn:(b7 != b0)=true:=by simpa using h4
 have tn2:(b7==b0)=false:=by simpa using h4
 have hb:b0=!b7:=by cases b7<;>cases b0<;>simp_all
 clear hE h2 h1 h3 h4 hn nY hb0 hlg tn tn2;subst hb;go_enter func29,ntmps29
 go_wp2
 go_ret
 rw[←hw1];exact⟨rfl,jT.out.1⟩
theorem xR:∀(n:Nat) (w:aj) (r:di) (P:List fG),r.pn=P.length→BN w n r.pa P→r.dn≤bq→aI prog 29 #[r.val] w (oF w (gF r.kind r.dn P))
 |0,w,r,P,hn,h,hd=>by
  have h:P=[]:=h;subst h;exact BF w r [] hn (fun k i hk=>by simp at hk) hd
 |n+1,w,r,P,hn,h,hd=>BF w r P hn (fun k i hk=>by
   obtain⟨b,off,r',Q,h1,h2,h3,h4,h5,h6,h7⟩:=h k i hk;exact⟨b,off,r',Q,h1,h2,h3,h4,h5,fun w' hb=>xR n w' r' Q h5 (h7.below hb) h6⟩) hd
theorem iV.Yw{w:aj}{lo lo':Nat→Prop}(hl:∀k,lo k→k<w.heap.size→lo' k):∀{m:List (cO×Raw)} {M:List (cO×Nd)},iV w lo m M→iV w lo' m M
 |[],[],_=>trivial
 |x::m,y::M,⟨⟨h1,h2⟩,h3⟩=>⟨⟨h1,h2.num,h2.len,fun j c hj=>by
   obtain⟨b,off,q1,q2,q3,q4⟩:=h2.data j c hj;exact⟨b,off,q1,hl b q2 q3,q3,q4⟩,h2.nil⟩,h3.Yw hl⟩
theorem dN.both{w:aj}{lo lo':Nat→Prop}{b mb:Nat}{cP:cO}{cS:Int}{M:List (cO×Nd)}(T:dN w lo b mb cP cS M)(hl:∀k,lo k→k<w.heap.size→lo' k):dN w lo' b mb cP cS M:=by
 obtain⟨m,h1,h2⟩:=T.map;exact⟨T.blk,m,h1,h2.Yw hl⟩
theorem iV.dZ{w w':aj}{lo S:Nat→Prop}(hk:cQ S w w')(hn:∀k,lo k→¬S k):∀{m:List (cO×Raw)} {M:List (cO×Nd)},iV w lo m M→iV w' lo m M
 |[],[],_=>trivial
 |x::m,y::M,⟨⟨h1,h2⟩,h3⟩=>⟨⟨h1,h2.num,h2.len,(h2.data.kept hk (aB _) (fun b hb _ _=>hn b hb)).mono (fun _ h=>h) hk.size,h2.nil⟩,h3.dZ hk hn⟩
theorem dN.dZ{w w':aj}{lo S:Nat→Prop}{b mb:Nat}{cP:cO}{cS:Int}{M:List (cO×Nd)}(T:dN w lo b mb cP cS M)(hk:cQ S w w')(hn:∀k,lo k→¬S k)(hb:¬S b)(hm:¬S mb):dN w' lo b mb cP cS M:=by
 obtain⟨m,h1,h2⟩:=T.map;exact⟨hk.same T.blk hb,m,h1.kept hk hm,h2.dZ hk hn⟩
theorem dN.ET{w:aj}{lo:Nat→Prop}{b mb:Nat}{cP:cO}{cS:Int}{M:List (cO×Nd)}(T:dN w lo b mb cP cS M){k:Nat}{cs:Array an}{t:aU}{fr:Nat×Nat}(h:w.heap[k]?=some (.cells cs t fr)):mb≠k:=fun e=>by
 subst e;obtain⟨m,⟨es,c,h1,_⟩,_⟩:=T.map;rw[h] at h1;cases h1
theorem J3{w:aj}{base size n:Nat}{e:aU}{v:an}{xs:List an}(h:w.ownsRow base e size v n xs){lo:Nat→Prop}{b mb:Nat}{cP:cO}{cS:Int}{M:List (cO×Nd)}(T:dN w lo b mb cP cS M):v.ownBlock≠some mb:=fun e1=>by
 rcases h.2 with ⟨h1,_⟩|⟨g,cap,cur,h1,h2,h3,h4⟩
 ·rw[h1] at e1;cases e1
 ·rw[h1] at e1
  have:g=mb:=by cases e1;rfl
  exact T.ET h3 this.symm
section
variable{X:Nat→Prop}{w0 w:World}{d b:Nat}{cP:cO}{cS cnt:Int}{M:List (cO×Nd)}{dh:eF}{v:Value}{L:List dr}{E:List gm}
def Ur(X:Nat→Prop)(w0 w:aj)(d b:Nat)(cP:cO)(cS cnt:Int)(M':List (cO×Nd))(dh:eF)(v:an)(L:List dr)(E:List gm)(e:aW)(w':aj):Prop:=
 e=.returned (.tuple #[])∧(∃v',dx X w0 w' d b cP cS (cnt+1) M' dh v' L E∧∀k,v'.ownBlock=some k→v.ownBlock=some k∨w.heap.size≤k)∧cQ (fun k=>k=b∨k=d∨v.ownBlock=some k) w w'
theorem WU{w1 w2:aj}{lo:Nat→Prop}{s9:Nat}{M':List (cO×Nd)}{v2:an}{Lx:List dr}{Ex:List gm}{lx:Nat→Prop}(D:dx X w0 w d b cP cS cnt M dh v L E)
  (hlo:∀k,lo k→(v.ownBlock≠some k∧k≠d)∧¬X k) (T1:dN w1 (IW lo w.heap.size) b s9 cP (cnt+1) M') (K1:cQ (·=b) w w1) (hE:∀e∈Ex,BS e) (hx:dU cP M Ex=(0,M'))
  (hL:ff w lx Lx Ex) (hlx:∀k,lx k→v.ownBlock≠some k∧¬X k)
  {nl:Nat} (hnl:nl=L.length+Lx.length) (hown:w2.ownsRow w0.heap.size 93 11 v2 nl (L.flatMap dr.cells++Lx.flatMap dr.cells)) (hg:w1.grownBy w2 v.ownBlock) (hw:∀k,v2.ownBlock=some k→v.ownBlock=some k∨w1.heap.size≤k):
  Ur X w0 w d b cP cS cnt M' dh v (L++Lx) (E++Ex) (.returned (.tuple #[])) (w2.setCell ⟨d,4,none⟩ v2):=by
 subst hnl;have hdb:=D.ne;have hdl:=D.lt;have hvl:∀k,v.ownBlock=some k→k<w.heap.size:=fun k h=>(D.row.own.lt k h).2
 have ZW:v.ownBlock≠some b:=iX D.row.own D.mG.choose_spec.choose_spec.1.blk cL;have XM:v.ownBlock≠some d:=iX D.row.own D.blk cL;have K2:cQ (fun k=>v.ownBlock=some k) w1 w2:=gz hg;have K3:cQ (·=d) w2 (w2.setCell ⟨d,4,none⟩ v2):=cQ.setCell (S:=(·=d)) (p:=⟨d,4,none⟩) (cQ.refl _ w2) rfl v2;have VA:w1.ownsRow w0.heap.size 93 11 v L.length (L.flatMap dr.cells):=fA D.row.own K1 (fun g h e=>ZW (by have e:g=b:=e;rw[←e];exact h));have TQ:w1.heap[d]?=some (.cells #[.p b,.v cS,.i dh.dy,.u dh.n,v] 158 (0,0)):=(K1.block d hdl hdb).trans D.blk;have IM:w2.heap[d]?=some (.cells #[.p b,.v cS,.i dh.dy,.u dh.n,v] 158 (0,0)):=(K2.block d (aq hdl K1.size) XM).trans TQ;have T1':=T1.both (lo':=fun k=>IW lo w.heap.size k∧k<w1.heap.size) (fun k h1 h2=>⟨h1,h2⟩);have T2:=T1'.dZ K2 (fun k hk e=>by
  rcases hk.1 with h|h
  ·exact(hlo k h).1.1 e
  have:=hvl k e;omega) ZW (fun e=>J3 VA T1 e)
 have T3:=T2.dZ K3 (fun k hk e=>by
  have e:k=d:=e;rcases hk.1 with h|h
  ·exact(hlo k h).1.2 e
  omega) (fun e=>hdb e.symm) (T2.ET IM)
 have ah4:v2.ownBlock≠some d:=iX hown IM cL;have gQ:cE w0 (w2.setCell ⟨d,4,none⟩ v2):=by
  have h1:cE w0 w1:=D.tree.bl.trans (K1.below D.tree.bl.size (fun k e=>by have e:k=b:=e;rw[e];exact D.tree.hb));have h2:cE w0 w2:=h1.trans (K2.below h1.size (fun k e=>(D.row.own.lt k e).1));exact h2.trans (K3.below h2.size (fun k e=>by have e:k=d:=e;rw[e];exact D.hd))
 have hfit:Fit M':=by have:=D.tree.fit.all hE (cP:=cP);rw[hx] at this;exact this
 have hinv:Inv cP M':=by have:=D.inv.all (E:=Ex);rw[hx] at this;exact this
 obtain⟨a2,m2,c2,qg⟩:∃a m c,v2=.slice a m c:=by
  rcases hown.2 with ⟨h1,_⟩|⟨g,cap,cur,h1,_⟩
  ·exact⟨_,_,_,h1⟩
  exact⟨_,_,_,h1⟩
 obtain⟨a1,m1,c1,sN⟩:∃a m c,v=.slice a m c:=iE D.row.own |>.elim fun a h=>h.elim fun c h=>⟨a,_,c,h⟩
 have tf:∀y∈(#[Value.string (bs cP),.v cnt,.map (some D.mG.choose_spec.choose)]:Array an).toList,∀m,y≠.b m:=NA _ _ _;have l1:ff w1 (fun k=>v.ownBlock≠some k∧¬X k) L E:=D.Ar.ot D.mG.choose_spec.choose_spec.1.blk tf K1;have lx1:ff w1 lx Lx Ex:=hL.ot D.mG.choose_spec.choose_spec.1.blk tf K1;have conv:∀{P:Nat→Prop} {L':List dr} {E':List gm},ff w1 P L' E'→(∀k,P k→v.ownBlock≠some k∧¬X k)→ff (w2.setCell ⟨d,4,none⟩ v2) (fun k=>v2.ownBlock≠some k∧¬X k) L' E':=fun {P L' E'} h hP=>by
  have g1:=h.both (lo':=fun k=>(v.ownBlock≠some k∧¬X k)∧k<w1.heap.size) (fun k h1 h2=>⟨hP k h1,h2⟩);have g2:=(g1.dZ K2 (fun k hk e=>hk.1.1 e)).ot IM (QK _ _ _ _ _ ⟨a1,m1,c1,sN⟩) K3;exact g2.both (fun k hk _=>⟨fun e=>by
   rcases hw k e with h|h
   ·exact hk.1.1 h
   have:=hk.2;omega,hk.1.2⟩)
 have hrl:=(conv l1 (fun _ h=>h)).append (conv lx1 hlx);refine⟨rfl,⟨v2,⟨⟨⟨_,_,T3⟩,gQ,D.tree.hb,hfit,D.tree.rl,D.tree.hm⟩,?_,⟨?_,hrl.both (fun k h _=>h.1)⟩,D.hd,hinv,hrl,fun k h=>aq (D.old k h) (aS K1.size (aS K2.size K3.size)),⟨_,_,T3,fun k hk=>⟨⟨fun e=>?_,?_⟩,?_⟩⟩⟩,fun k e=>(hw k e).imp id (fun h=>aS K1.size h)⟩,?_⟩
 ·simp[aM,aD,IM]
 ·rw[aP,List.flatMap_append]
  exact fA hown K3 (fun g h e=>ah4 (by have e:g=d:=e;rw[←e];exact h))
 ·rcases hw k e with h|h
  ·rcases hk.1 with h2|h2
   ·exact(hlo k h2).1.1 h
   have:=hvl k h;omega
  have:=hk.2;omega
 ·rcases hk.1 with h|h
  ·exact(hlo k h).1.2
  have h:w.heap.size≤k:=h;omega
 ·intro hX
  have hlt:=D.old k hX;rcases hk.1 with h|h
  ·exact(hlo k h).2 hX
  have h:w.heap.size≤k:=h;omega
 exact((K1.mono (T:=fun k=>k=b∨k=d∨v.ownBlock=some k) (fun k _ e=>.inl e)).trans (K2.mono (fun k _ e=>.inr (.inr e)))).trans (K3.mono (fun k _ e=>.inr (.inl e)))
theorem dx.Fs(D:dx X w0 w d b cP cS cnt M dh v L E)(h0:0≤cnt)(h1:cnt≤100000){gb go_ n c:Nat}{Lx:List dr}{Ex:List gm}{lx:Nat→Prop}{M':List (cO×Nd)}(hn:n=Lx.length)(hA:gH w w.heap.size (some ⟨gb,go_,none⟩) Lx)(DF:gb≠b)
  (hL:ff w lx Lx Ex) (hlx:∀k,lx k→v.ownBlock≠some k∧¬X k) (hE:∀e∈Ex,BS e) (hx:dU cP M Ex=(0,M')) (hsz:L.length+n≤1000):
  aI prog 294 #[.p d,.slice (some ⟨gb,go_,none⟩) n c] w (Ur X w0 w d b cP cS cnt M' dh v (L++Lx) (E++Ex)):=by
 obtain⟨i0,wS,hz0,hz1,hz2⟩:=info_parts tY;obtain⟨lo,mb,T,hlo⟩:=D.mG;have hap:=T.sF D.tree.max D.tree.fit D.tree.rl h0 cK (some ⟨gb,go_,none⟩) c Lx Ex hL hA hE cK;rw[←hn] at hap;unfold Eh at hap;rw[hx] at hap;dsimp only at hap;rw[if_pos rfl,if_pos rfl] at hap;obtain⟨a1,m1,c1,sN⟩:∃a m c,v=.slice a m c:=iE D.row.own |>.elim fun a h=>h.elim fun c h=>⟨a,_,c,h⟩
 have q0:=D.c0;have QG:=cD hap;have HD:=cD (cC D (cC hlo (cC hE (cC hx (cC hL hlx)))));have HA:=cD (cC hA hn);have hs0:w0.heap.size≤w.heap.size:=D.tree.bl.size;have zx:L.length+n≤bq:=by unfold bq;omega
 have hm2:(L.length+n)*104≤140737488355328:=by omega
 subst sN;clear T hap D hlo hE hx hL hlx hA hn;go_enter func294,ntmps294
 go_wp2_with fail
 refine QG.out.mono ?_;rintro e w1 ⟨s9,rfl,T1,K1⟩;have D:=HD.out.1;have ZW:=iX D.row.own D.mG.choose_spec.choose_spec.1.blk (t:=122) cL;have XM:=iX D.row.own D.blk (t:=158) cL;have VA:w1.ownsRow w0.heap.size 93 11 (.slice a1 m1 c1) L.length (L.flatMap dr.cells):=fA D.row.own K1 (fun g h e=>ZW (by have e:g=b:=e;rw[←e];exact h));have TQ:w1.heap[d]?=some (.cells #[.p b,.v cS,.i dh.dy,.u dh.n,.slice a1 m1 c1] 158 (0,0)):=(K1.block d D.lt D.ne).trans D.blk;have q4:w1.cell? ⟨d,4,none⟩=some (.slice a1 m1 c1):=af _ _ 4 _ 158 (0,0) TQ;have hA1:gH w1 w1.heap.size (some ⟨gb,go_,none⟩) Lx:=fun k r hr=>by
  obtain⟨b',off',e,h2,h3⟩:=HA.out.1 k r hr;cases e;exact⟨gb,go_,rfl,aq h2 K1.size,fun j u hu=>(K1.cell (p:=⟨gb,go_+k*11+j,none⟩) h2 DF).trans (h3 j u hu)⟩
 have Xu:=cD hA1.flat;have hfl:(Lx.flatMap dr.cells).length=n*11:=by rw[DR,HA.out.2]
 have HO:=cD (cC VA (cC hfl (cC T1 (cC K1 (cC TQ XM)))));have hs1:w.heap.size≤w1.heap.size:=K1.size;clear D ZW VA TQ hA1 hfl T1 K1 XM q0;have hdl:=HD.out.1.lt;go_wp2_with (at_builtin;refine eD rfl (.tmp 14) (.tmp 15) 38 rfl w0.heap.size 93 i0 (.agg #[.z,.F,.n,.U,.U,.U,.I,.U,.V,.V,.V]) 11 104 underlying38 wS hz0 hz1 hz2 rfl cL (.slice a1 m1 c1) L.length (L.flatMap dr.cells) rfl HO.out.1 ⟨gb,go_,none⟩ n c (Lx.flatMap dr.cells) rfl HO.out.2.1 Xu.out (JW _) zx hm2 cK ?_;intro v2 w2 hown2 hgrow2 hwh2;have IM:w2.heap[d]?=some (.cells #[.p b,.v cS,.i dh.dy,.u dh.n,.slice a1 m1 c1] 158 (0,0)):=(hgrow2.block d cK (fun e=>HO.out.2.2.2.2.2 e.symm)).trans HO.out.2.2.2.2.1;have q5:w2.cell? ⟨d,4,none⟩=some (.slice a1 m1 c1):=af _ _ 4 _ 158 (0,0) IM;have f5:w2.frozen? ⟨d,4,none⟩=false:=(by simp[aG,IM]);obtain⟨a2,c2,qg⟩:=iE hown2;subst qg;have H2:=cD (cC hown2 (cC hgrow2 hwh2));clear hown2 hgrow2 hwh2 IM)
 (try simp only[Exit.inBlock,Exit.then])
 refine bodyPost_end (bC rfl _ _ _) rfl ?_;exact WU HD.out.1 HD.out.2.1 HO.out.2.2.1 HO.out.2.2.2.1 HD.out.2.2.1 HD.out.2.2.2.1 HD.out.2.2.2.2.1 HD.out.2.2.2.2.2 (by rw[HA.out.2]) H2.out.1 H2.out.2.1 H2.out.2.2
end
theorem cQ.GQ{S:Nat→Prop}{a b c:aj}{B:Nat}(h:cQ S a b)(hk:cQ (·=B) b c)(hB:a.heap.size≤B):cQ S a c:=
 ⟨hk.os.trans h.os,hk.tape.trans h.tape,hk.output.trans h.output,aS h.size hk.size,fun i hi hn=>(hk.block i (aq hi h.size) (fun e=>by have e:i=B:=e;omega)).trans (h.block i hi hn)⟩
theorem iV.ot{w w':aj}{lo:Nat→Prop}{b:Nat}{cs:Array an}{t:aU}{fr:Nat×Nat}(hb:w.heap[b]?=some (.cells cs t fr))(hu:∀x∈cs.toList,∀n,x≠.b n)(hk:cQ (·=b) w w'):∀{m:List (cO×Raw)} {M:List (cO×Nd)},iV w lo m M→iV w' lo m M
 |[],[],_=>trivial
 |x::m,y::M,⟨⟨h1,h2⟩,h3⟩=>⟨⟨h1,h2.num,h2.len,(h2.data.ot hb hu hk (aB _)).mono (fun _ h=>h) hk.size,h2.nil⟩,iV.ot hb hu hk h3⟩
theorem dN.ot{w w':aj}{lo:Nat→Prop}{b mb:Nat}{cP:cO}{cS:Int}{M:List (cO×Nd)}(T:dN w lo b mb cP cS M){B:Nat}{cs:Array an}{t:aU}{fr:Nat×Nat}(hb:w.heap[B]?=some (.cells cs t fr))(hu:∀x∈cs.toList,∀n,x≠.b n)(ht:t≠122)(hk:cQ (·=B) w w'):dN w' lo b mb cP cS M:=by
 obtain⟨m,h1,h2⟩:=T.map;have hbB:b≠B:=fun e=>by
  subst e;have:=T.blk;rw[hb] at this;cases this;exact ht rfl
 exact⟨hk.same T.blk hbB,m,h1.kept hk (fun e=>T.ET hb e),h2.ot hb hu hk⟩
theorem kL:∀y∈(#[.I,.z,.n,.U,.U,.U,.I,.U,.V,.V,.V,.n,.n]:Array an).toList,∀m,y≠.b m:=by
 intro y hy m;simp at hy;rcases hy with rfl|rfl|rfl|rfl|rfl|rfl|rfl|rfl<;>simp
section
variable{X:Nat→Prop}{w0 w:World}{d b:Nat}{cP:cO}{cS cnt:Int}{M:List (cO×Nd)}{dh:eF}{v:Value}{L:List dr}{E:List gm}
def Xy(n:Nat)(v:an)(k:Nat):Prop:=n≤k∧v.ownBlock≠some k
def gK(w:aj)(lo:Nat→Prop)(a:Option aV)(L:List cO):Prop:=∀k p,L[k]?=some p→∃b off,a=some ⟨b,off,none⟩∧lo b∧b<w.heap.size∧w.cell? ⟨b,off+k,none⟩=some (.s p)
theorem gK.nil(w:aj)(lo:Nat→Prop)(a:Option aV):gK w lo a []:=fun k p h=>by simp at h
theorem gK.dZ{w w':aj}{lo S:Nat→Prop}{a:Option aV}{L:List cO}(h:gK w lo a L)(hk:cQ S w w')(hn:∀k,lo k→k<w.heap.size→¬S k):gK w' lo a L:=fun k p hp=>by
 obtain⟨b,off,h1,h2,h3,h4⟩:=h k p hp;exact⟨b,off,h1,h2,aq h3 hk.size,(hk.cell (p:=⟨b,off+k,none⟩) h3 (hn b h2 h3)).trans h4⟩
theorem gK.mono{w:aj}{lo lo':Nat→Prop}{a:Option aV}{L:List cO}(h:gK w lo a L)(hl:∀k,lo k→k<w.heap.size→lo' k):gK w lo' a L:=fun k p hp=>by
 obtain⟨b,off,h1,h2,h3,h4⟩:=h k p hp;exact⟨b,off,h1,hl b h2 h3,h3,h4⟩
theorem gK.sl{w:aj}{lo:Nat→Prop}{a:Option aV}{L:List cO}(h:gK w lo a L):gZ w w.heap.size a L:=fun k p hp=>by
 obtain⟨b,off,h1,_,h3,h4⟩:=h k p hp;exact⟨b,off,h1,h3,h4⟩
theorem Reads.monoB{w:aj}{lo lo':Nat→Prop}{r:Raw}{nd:Nd}(h:Reads w lo r nd)(hl:∀k,lo k→k<w.heap.size→lo' k):Reads w lo' r nd:=
 ⟨h.num,h.len,fun j c hj=>by
  obtain⟨b,off,q1,q2,q3,q4⟩:=h.data j c hj;exact⟨b,off,q1,hl b q2 q3,q3,q4⟩,h.nil⟩
structure kV(X:Nat→Prop)(w0 w:aj)(d b:Nat)(cP:cO)(cS cnt:Int)(M M':List (cO×Nd))(dh:eF)(v:an)(E:List gm)(A:I7)(e:aW)(w':aj):Prop where
 ret:∃(v':an) (L':List dr) (r:Raw) (ka:Option aV) (kc:Nat),e=.returned (.agg (eL 0 A.cW r ka A.kids.length kc none 0 0).toArray)∧dx X w0 w' d b cP cS cnt M' dh v' L' E∧(∀k,v'.ownBlock=some k→v.ownBlock=some k∨w.heap.size≤k)∧Reads w' (Xy w.heap.size v') r A.node∧gK w' (Xy w.heap.size v') ka A.kids
 kept:cQ (fun k=>k=b∨k=d∨v.ownBlock=some k) w w'
theorem dx.iN(D:dx X w0 w d b cP cS cnt M dh v L E){B:Nat}{cs:Array an}{t:aU}{fr:Nat×Nat}(hb:w.heap[B]?=some (.cells cs t fr))(hu:∀x∈cs.toList,∀n,x≠.b n)(h1:t≠122)(h2:t≠93)(h3:t≠158)(hw:w0.heap.size≤B){w':aj}(hk:cQ (·=B) w w'):dx X w0 w' d b cP cS cnt M dh v L E:=by
 obtain⟨lo,mb,T,hlo⟩:=D.mG;have T':=T.ot hb hu h1 hk;have hdB:d≠B:=fun e=>by
  subst e;have:=D.blk;rw[hb] at this;cases this;exact h3 rfl
 refine⟨⟨⟨_,_,T'⟩,D.tree.bl.trans (hk.below D.tree.bl.size (fun k e=>by have e:k=B:=e;omega)),D.tree.hb,D.tree.fit,D.tree.rl,D.tree.hm⟩,(hk.block d D.lt hdB).trans D.blk,⟨fA D.row.own hk (fun g hg e=>iX D.row.own hb h2 (by have e:g=B:=e;rw[←e];exact hg)),D.row.like.ot hb hu hk⟩,D.hd,D.inv,D.Ar.ot hb hu hk,fun k h=>aq (D.old k h) hk.size,⟨_,_,T',hlo⟩⟩
theorem dx.len(D:dx X w0 w d b cP cS cnt M dh v L E):L.length=E.length:=D.row.like.1
theorem dx.Ze(D:dx X w0 w d b cP cS cnt M dh v L E)(h0:0≤cnt)(h1:cnt≤100000)(hsz:E.length≤900)(r:di)(o:fh){lo:Nat→Prop}(hr:fo w lo r o)(hlo:∀k,lo k→v.ownBlock≠some k∧¬X k)(hp:o.cW.length≤1000)(hdl:o.data.length≤1000000)(hv:mI M o=0):
  aI prog 257 #[.p d,r.val] w (kV X w0 w d b cP cS (cnt+1) M (JM M cS o) dh v (E++zi M cS o) ⟨o.cW,Ck (nodeAt M o.cW) o.data cS,[]⟩):=by
 obtain⟨nd,hnd,Sn⟩:=ko hv;have X9:=Gi (cS:=cS) D.inv hv;obtain⟨ok,op,oa,on,oc,ov,os,oe,pa,pn,pc⟩:=r;obtain⟨Ja,Uz,gr,over,sK,sL⟩:=o;obtain⟨q1,q2,q3,q4,q5,q6,q7,q8⟩:=hr;dsimp only at q1 q2 q3 q4 q5 q6 q7 q8 hp hdl Sn hnd;subst q1 q2 q3 q4 q5;unfold di.val di.cells;dsimp only;obtain⟨w1,hw1⟩:=cF ((w.alloc (.cells #[.b ok,.s op,.slice oa on oc,.i ov,.bool os,.bool oe,.slice pa pn pc] 35)).alloc (.cells #[.I,.z,.n,.U,.U,.U,.I,.U,.V,.V,.V,.n,.n] 47));have dB:cE w w1:=by rw[hw1];exact cT (cT (ag _ w) _) _
 have hs1:w1.heap.size=w.heap.size+2:=by rw[hw1];simp
 have k0:w1.heap[w.heap.size]?=some (.cells #[.b ok,.s op,.slice oa on oc,.i ov,.bool os,.bool oe,.slice pa pn pc] 35 (0,0)):=by rw[hw1];exact(aK _ _ cM).trans (aa w _)
 have k1:w1.heap[w.heap.size+1]?=some (.cells #[.I,.z,.n,.U,.U,.U,.I,.U,.V,.V,.V,.n,.n] 47 (0,0)):=by
  have:=aa (w.alloc (.cells #[.b ok,.s op,.slice oa on oc,.i ov,.bool os,.bool oe,.slice pa pn pc] 35)) (.cells #[.I,.z,.n,.U,.U,.U,.I,.U,.V,.V,.V,.n,.n] 47);rw[aH] at this;rw[hw1];exact this
 have kX:w1.rangeAt w.heap.size 0 [.b ok,.s op,.slice oa on oc,.i ov,.bool os,.bool oe,.slice pa pn pc]:=fun j u hu=>by
  rw[ay,af _ _ j _ 35 (0,0) k0];simpa using hu
 have hg:=(D.below dB).Jt ⟨ok,op,oa,on,oc,ov,os,oe,pa,pn,pc⟩ hp hnd Sn;unfold di.val di.cells at hg;dsimp only at hg;have HG:=cD hg;have aiN:=D.lt;have HD:=cD (cC D (cC X9 (cC q7 (cC q8 (cC hlo (cC hnd (cC q6 hv)))))));have H1:=cD (cC dB (cC hs1 (cC k0 (cC k1 (cC hw1 kX)))));have fm:Hid (cG 44 9):=cD cJ;have sG:Hid (cG 35 7):=cD cJ;have mh:Hid (cG 47 13):=cD cJ;have aqy:=cD q6;clear D X9 q7 q8 hlo hnd Sn hv hg dB hs1 k0 k1 hw1 kX q6;go_enter func257,ntmps257
 go_wp2_with (rw[←H1.out.2.2.2.2.1];refine aA rfl 35 (.tmp 3) rfl w.heap.size 0 rfl [.b ok,.s op,.slice oa on oc,.i ov,.bool os,.bool oe,.slice pa pn pc] _ H1.out.2.2.2.2.2 underlying35 rfl sG.out ?_)
 refine HG.out.mono ?_;rintro e w2 ⟨r,rfl,hrd,B2,hfree⟩;obtain⟨ra,rn,rc,⟨r1,r2,r3,r4,r5,r6,r7,r8⟩⟩:=r;unfold Raw.val Raw.cells eU.cells;dsimp only;obtain⟨dB,hs1,k0,k1,_,_⟩:=H1.out;obtain⟨w3,kJ⟩:=cF (w2.alloc (.cells #[.slice ra rn rc,.u r1,.u r2,.u r3,.i r4,.u r5,.v r6,.v r7,.v r8] 44));have eO:cE w2 w3:=by rw[kJ];exact cT (ag _ w2) _
 have k3:w3.heap[w2.heap.size]?=some (.cells #[.slice ra rn rc,.u r1,.u r2,.u r3,.i r4,.u r5,.v r6,.v r7,.v r8] 44 (0,0)):=by rw[kJ];exact aa w2 _
 have iU:cE w1 w3:=B2.trans (eO.mono B2.size);have adt:=B2.size;obtain⟨kv,hkv⟩:=cF (IntKind.u32.wrap (r1+1));have tk:∀_:True,IntKind.u32.wrap (r1+1)=kv:=fun _=>hkv.symm
 have z1:w3.cell? ⟨w.heap.size,2,none⟩=some (.slice oa on oc):=(iU.cell (p:=⟨w.heap.size,2,none⟩) (by show w.heap.size<w1.heap.size;omega)).trans (af _ _ 2 _ 35 (0,0) k0);have z2:w3.cell? ⟨w2.heap.size,0,none⟩=some (.slice ra rn rc):=af _ _ 0 _ 44 (0,0) k3;have f2:w3.frozen? ⟨w2.heap.size,0,none⟩=false:=by simp[aG,k3]
 obtain⟨w4,lP⟩:=cF (w3.setCell ⟨w2.heap.size,0,none⟩ (.slice oa on oc));have k4:w4.heap[w2.heap.size]?=some (.cells #[.slice oa on oc,.u r1,.u r2,.u r3,.i r4,.u r5,.v r6,.v r7,.v r8] 44 (0,0)):=by
  rw[lP];simp[aM,aD,k3]
 have p4:cQ (·=w2.heap.size) w3 w4:=by rw[lP];exact cQ.setCell (S:=(·=w2.heap.size)) (p:=⟨w2.heap.size,0,none⟩) (cQ.refl _ w3) rfl _
 have z3:w4.cell? ⟨w2.heap.size,1,none⟩=some (.u r1):=af _ _ 1 _ 44 (0,0) k4;have f3:w4.frozen? ⟨w2.heap.size,1,none⟩=false:=by simp[aG,k4]
 obtain⟨w5,nI⟩:=cF (w4.setCell ⟨w2.heap.size,1,none⟩ (.u kv));have k5:w5.heap[w2.heap.size]?=some (.cells #[.slice oa on oc,.u kv,.u r2,.u r3,.i r4,.u r5,.v r6,.v r7,.v r8] 44 (0,0)):=by
  rw[nI];simp[aM,aD,k4]
 have p5:cQ (·=w2.heap.size) w3 w5:=p4.trans (by rw[nI];exact cQ.setCell (S:=(·=w2.heap.size)) (p:=⟨w2.heap.size,1,none⟩) (cQ.refl _ w4) rfl _);have z4:w5.cell? ⟨w2.heap.size,7,none⟩=some (.v r7):=af _ _ 7 _ 44 (0,0) k5;have f4:w5.frozen? ⟨w2.heap.size,7,none⟩=false:=by simp[aG,k5]
 have zd:w5.cell? ⟨d,1,none⟩=some (.v cS):=(p5.cell (p:=⟨d,1,none⟩) (by show d<w3.heap.size;have:=iU.size;omega) (fun e=>by have e:d=w2.heap.size:=e;omega)).trans ((iU.cell (p:=⟨d,1,none⟩) (by show d<w1.heap.size;omega)).trans ((dB.cell (p:=⟨d,1,none⟩) aiN).trans HD.out.1.c1));have qH:cE w1 w5:=iU.trans (p5.below iU.size (fun k e=>by have e:k=w2.heap.size:=e;omega));have z6:w5.cell? ⟨w.heap.size,1,none⟩=some (.s op):=(qH.cell (p:=⟨w.heap.size,1,none⟩) (by show w.heap.size<w1.heap.size;omega)).trans (af _ _ 1 _ 35 (0,0) k0);clear qH;obtain⟨w6,mU⟩:=cF (w5.setCell ⟨w2.heap.size,7,none⟩ (.v cS));have k6:w6.heap[w2.heap.size]?=some (.cells #[.slice oa on oc,.u kv,.u r2,.u r3,.i r4,.u r5,.v r6,.v cS,.v r8] 44 (0,0)):=by
  rw[mU];simp[aM,aD,k5]
 have p6:cQ (·=w2.heap.size) w3 w6:=p5.trans (by rw[mU];exact cQ.setCell (S:=(·=w2.heap.size)) (p:=⟨w2.heap.size,7,none⟩) (cQ.refl _ w5) rfl _);have Qp:w6.rangeAt w2.heap.size 0 [.slice oa on oc,.u kv,.u r2,.u r3,.i r4,.u r5,.v r6,.v cS,.v r8]:=fun j u hu=>by
  rw[ay,af _ _ j _ 44 (0,0) k6];simpa using hu
 have SP:cE w1 w6:=iU.trans (p6.below iU.size (fun k e=>by have e:k=w2.heap.size:=e;omega));have z5:w6.cell? ⟨w.heap.size,1,none⟩=some (.s op):=(SP.cell (p:=⟨w.heap.size,1,none⟩) (by show w.heap.size<w1.heap.size;omega)).trans (af _ _ 1 _ 35 (0,0) k0);obtain⟨w7,pI⟩:=cF (w6.alloc (.cells #[.s op,.F,.slice oa on oc,.u kv,.u r2,.u r3,.i r4,.u r5,.v r6,.v cS,.v r8] 93));have WA:cE w6 w7:=by rw[pI];exact cT (ag _ w6) _
 have aaA:cE w1 w7:=SP.trans (WA.mono SP.size);have nY:cE w w7:=dB.trans (aaA.mono dB.size);have D7:=HD.out.1.below nY;have pJ:=hrd.num;have adC:kU w7 lo ⟨op,false,⟨oa,on,oc,⟨kv,r2,r3,r4,r5,r6,cS,r8⟩⟩⟩ ⟨op,false,Ck (nodeAt M op) gr cS⟩:=by
  refine⟨rfl,rfl,?_,HD.out.2.2.2.2.2.2.1,(HD.out.2.2.1.below nY).mono (fun _ h=>h) nY.size,HD.out.2.2.2.1⟩;unfold Ck nodeAt vM;rw[HD.out.2.2.2.2.2.1];dsimp only[bB];rw[←pJ,hkv]
 have DH:=D7.Fs h0 h1 (gb:=w6.heap.size) (go_:=0) (n:=1) (c:=1) (Lx:=[⟨op,false,⟨oa,on,oc,⟨kv,r2,r3,r4,r5,r6,cS,r8⟩⟩⟩]) (Ex:=zi M cS ⟨ok,op,gr,ov,os,oe⟩) rfl (by rw[pI];exact To w6 ⟨op,false,⟨oa,on,oc,⟨kv,r2,r3,r4,r5,r6,cS,r8⟩⟩⟩) (by have h2:=HD.out.1.tree.lt;have h3:=SP.size;omega) (G5 adC) HD.out.2.2.2.2.1 (by intro x hx;simp[zi] at hx;subst hx;exact⟨hp,hdl⟩) HD.out.2.1 (by have:=HD.out.1.len;omega);have Xs:=cD DH;have H7:=cD (cC Qp (cC nY (cC aaA (cC adt (cC dB hs1)))));have HW:=cD (cC kJ (cC lP (cC nI (cC mU pI))));clear DH Qp nY aaA WA SP p6 p5 p4 iU eO kJ lP nI mU pI k3 k4 k5 k6 adC D7 hrd B2 hfree pJ hkv dB hs1 k0 k1 adt;go_wp2_with (first
  |(rw[←HW.out.1])
  |(rw[←HW.out.2.1])
  |(rw[←HW.out.2.2.1])
  |(rw[←HW.out.2.2.2.1];refine aA rfl 44 (.tmp 5) rfl w2.heap.size 0 rfl [.slice oa on oc,.u kv,.u r2,.u r3,.i r4,.u r5,.v r6,.v cS,.v r8] _ H7.out.1 underlying44 rfl fm.out ?_))
 rw[←HW.out.2.2.2.2];refine Xs.out.mono ?_;rintro e w8 ⟨rfl,⟨v8,D8,G8⟩,K8⟩;have jt:b<w.heap.size:=HD.out.1.tree.lt;have hvl:∀k,v.ownBlock=some k→k<w.heap.size:=fun k h=>(HD.out.1.row.own.lt k h).2
 have hnk:∀k,w.heap.size≤k→¬(k=b∨k=d∨v.ownBlock=some k):=fun k hk h=>by
  rcases h with h|h|h
  ·omega
  ·omega
  have:=hvl k h;omega
 have ads:w1.heap.size≤w7.heap.size:=H7.out.2.2.1.size;have hs1:=H7.out.2.2.2.2.2;have z7:w8.cell? ⟨w.heap.size,1,none⟩=some (.s op):=(K8.cell (p:=⟨w.heap.size,1,none⟩) (by show w.heap.size<w7.heap.size;omega) (hnk _ (aB _))).trans ((H7.out.2.2.1.cell (p:=⟨w.heap.size,1,none⟩) (by show w.heap.size<w1.heap.size;omega)).trans (af _ _ 1 _ 35 (0,0) H1.out.2.2.1));have k8:=(K8.block (w.heap.size+1) cK (hnk _ (bg _))).trans ((H7.out.2.2.1.block (w.heap.size+1) cK).trans H1.out.2.2.2.1);have htl:=D8.si op hp (nd:=Ck (nodeAt M op) gr cS) (by unfold JM;exact kR _ _ _);have HT:=cD htl;have aoB:=K8.size;have H8:=cD (cC D8 (cC K8 (cC k8 (cC hnk G8))));clear htl D8 K8 k8 hnk G8;go_wp2_with fail
 refine HT.out.mono ?_;rintro e w9 ⟨r9,rfl,Sw,B9,Fe⟩;obtain⟨sa,sn,sc,⟨s1,s2,s3,s4,s5,s6,s7,s8⟩⟩:=r9;unfold eL Raw.cells eU.cells;dsimp only[aL,aN];have ht9:w9.there (w.heap.size+1) 0 13:=eE ((B9.block _ cK).trans H8.out.2.2.1) cM;have H9:=cD (cC ht9 (cC Sw (cC B9 Fe)));clear ht9 Sw B9 Fe;have gG:Hid ((#[.I,.s op,.slice sa sn sc,.u s1,.u s2,.u s3,.i s4,.u s5,.v s6,.v s7,.v s8,.n,.n]:Array an).all (·.oneCell')=true):=cD (by simp[au]);go_wp2_with (refine aC rfl 47 (.tmp 4) (.tmp 31) rfl (w.heap.size+1) 0 #[.I,.s op,.slice sa sn sc,.u s1,.u s2,.u s3,.i s4,.u s5,.v s6,.v s7,.v s8,.n,.n] rfl rfl H9.out.1 mh.out gG.out ?_)
 refine aJ (dz rfl _ _ (w.heap.size+1) 0 [.I,.s op,.slice sa sn sc,.u s1,.u s2,.u s3,.i s4,.u s5,.v s6,.v s7,.v s8,.n,.n] _ rfl (ah _ _ _ _ H9.out.1) underlying47 rfl mh.out) rfl ?_;obtain⟨_,g2,g3,_⟩:=H9.out;have K9:cQ (·=w.heap.size+1) w9 (w9.setCells (w.heap.size+1) 0 [.I,.s op,.slice sa sn sc,.u s1,.u s2,.u s3,.i s4,.u s5,.v s6,.v s7,.v s8,.n,.n]):=cQ.setCells (S:=(·=w.heap.size+1)) (p:=w.heap.size+1) rfl _ 0 (cQ.refl _ w9);have Ii:cQ (fun k=>k=b∨k=d∨v.ownBlock=some k) w w8:=(cQ.eT (S:=fun k=>k=b∨k=d∨v.ownBlock=some k) H7.out.2.1).trans H8.out.2.1;have UO:=(g3.block (w.heap.size+1) cK).trans H8.out.2.2.1;have D9:=(H8.out.1.below g3).iN UO kL cL cL cL (by have:=HD.out.1.tree.bl.size;omega) K9;have O4:=H7.out.2.1.size;refine⟨⟨v8,_,⟨sa,sn,sc,⟨s1,s2,s3,s4,s5,s6,s7,s8⟩⟩,none,0,rfl,D9,?_,?_,gK.nil _ _ _⟩,?_⟩
 ·intro k hk
  rcases H8.out.2.2.2.2 k hk with h|h
  ·exact .inl h
  exact .inr cK
 ·refine(g2.cells (fun k hk e=>by have hk:w8.heap.size≤k:=hk;omega) _).mono (fun k hk=>?_)
  have hk:w8.heap.size≤k:=hk;refine⟨by omega,fun e=>?_⟩;have:=(H8.out.1.row.own.lt k e).2;omega
 exact(Ii.trans (cQ.eT g3)).GQ K9 cK
def mD(w:aj)(x:Int)(e:aW)(w':aj):Prop:=e=fR x∧cE w w'
theorem dx.Ej(D:dx X w0 w d b cP cS cnt M dh v L E)(r:di)(o:fh)(h1:r.cW=o.cW)(h2:r.gW=o.gW)(hp:o.cW.length≤1000){x:Int}(hx:mI M o=x)(h0:x≠0):
  aI prog 296 #[.p d,r.val] w (mD w x):=by
 subst hx;unfold mI at h0⊢;split at h0
 ·rename_i hn
  exact D.QL r (by rw[h1];exact hp) (by rw[h1];exact hn)
 rename_i nd hn
 split at h0
 ·rename_i hv
  rw[if_pos hv];exact D.U7 r (by rw[h1];exact hp) (by rw[h1];exact hn) (by rw[h2];exact hv)
 exact absurd rfl h0
theorem dx.Ve(D:dx X w0 w d b cP cS cnt M dh v L E)(r:di)(o:fh){lo:Nat→Prop}(hr:fo w lo r o)(hp:o.cW.length≤1000){x:Int}(hx:mI M o=x)(h0:x≠0):
  aI prog 257 #[.p d,r.val] w (mD w x):=by
 obtain⟨ok,op,oa,on,oc,ov,os,oe,pa,pn,pc⟩:=r;obtain⟨Ja,Uz,gr,over,sK,sL⟩:=o;obtain⟨q1,q2,q3,q4,q5,q6,q7,q8⟩:=hr;clear q6 q7 q8;dsimp only at q1 q2 q3 q4 q5 hp hx;subst q1 q2 q3 q4 q5;unfold di.val di.cells;dsimp only;obtain⟨w1,hw1⟩:=cF ((w.alloc (.cells #[.b ok,.s op,.slice oa on oc,.i ov,.bool os,.bool oe,.slice pa pn pc] 35)).alloc (.cells #[.I,.z,.n,.U,.U,.U,.I,.U,.V,.V,.V,.n,.n] 47));have dB:cE w w1:=by rw[hw1];exact cT (cT (ag _ w) _) _
 have hs1:w1.heap.size=w.heap.size+2:=by rw[hw1];simp
 have k0:w1.heap[w.heap.size]?=some (.cells #[.b ok,.s op,.slice oa on oc,.i ov,.bool os,.bool oe,.slice pa pn pc] 35 (0,0)):=by rw[hw1];exact(aK _ _ cM).trans (aa w _)
 have k1:w1.heap[w.heap.size+1]?=some (.cells #[.I,.z,.n,.U,.U,.U,.I,.U,.V,.V,.V,.n,.n] 47 (0,0)):=by
  have:=aa (w.alloc (.cells #[.b ok,.s op,.slice oa on oc,.i ov,.bool os,.bool oe,.slice pa pn pc] 35)) (.cells #[.I,.z,.n,.U,.U,.U,.I,.U,.V,.V,.V,.n,.n] 47);rw[aH] at this;rw[hw1];exact this
 have kX:w1.rangeAt w.heap.size 0 [.b ok,.s op,.slice oa on oc,.i ov,.bool os,.bool oe,.slice pa pn pc]:=fun j u hu=>by
  rw[ay,af _ _ j _ 35 (0,0) k0];simpa using hu
 have sG:Hid (cG 35 7):=cD cJ;have mh:Hid (cG 47 13):=cD cJ;have D1:=D.below dB;have H1:=cD (cC dB (cC hs1 (cC k0 (cC k1 (cC hw1 kX)))));have hg:=D1.Ej ⟨ok,op,oa,on,oc,ov,os,oe,pa,pn,pc⟩ ⟨ok,op,gr,ov,os,oe⟩ rfl rfl hp hx h0;unfold di.val di.cells mD at hg;dsimp only at hg;have HG:=cD hg;clear D D1 hg hx h0 dB hs1 k0 k1 hw1 kX;go_enter func257,ntmps257
 go_wp2_with (rw[←H1.out.2.2.2.2.1];refine aA rfl 35 (.tmp 3) rfl w.heap.size 0 rfl [.b ok,.s op,.slice oa on oc,.i ov,.bool os,.bool oe,.slice pa pn pc] _ H1.out.2.2.2.2.2 underlying35 rfl sG.out ?_)
 refine HG.out.mono ?_;rintro e w2 ⟨rfl,B2⟩;have iK:=cD (H1.out.1.trans (B2.mono H1.out.1.size));clear B2;unfold fR;go_wp2
 exact⟨rfl,rfl,iK.out⟩
theorem dx.get_none(D:dx X w0 w d b cP cS cnt M dh v L E)(r:di)(o:fh){lo:Nat→Prop}(hr:fo w lo r o)(hp:o.cW.length≤1000)(h:dL o.cW M=none):
  aI prog 259 #[.p d,r.val] w (mD w 31):=by
 obtain⟨ok,op,oa,on,oc,ov,os,oe,pa,pn,pc⟩:=r;obtain⟨Ja,Uz,gr,over,sK,sL⟩:=o;obtain⟨q1,q2,q3,q4,q5,q6,q7,q8⟩:=hr;clear q6 q7 q8;dsimp only at q1 q2 q3 q4 q5 hp h;subst q1 q2 q3 q4 q5;unfold di.val di.cells;dsimp only;obtain⟨w1,hw1⟩:=cF ((w.alloc (.cells #[.b ok,.s op,.slice oa on oc,.i ov,.bool os,.bool oe,.slice pa pn pc] 35)).alloc (.cells #[.I,.z,.n,.U,.U,.U,.I,.U,.V,.V,.V,.n,.n] 47));have dB:cE w w1:=by rw[hw1];exact cT (cT (ag _ w) _) _
 have hs1:w1.heap.size=w.heap.size+2:=by rw[hw1];simp
 have k0:w1.heap[w.heap.size]?=some (.cells #[.b ok,.s op,.slice oa on oc,.i ov,.bool os,.bool oe,.slice pa pn pc] 35 (0,0)):=by rw[hw1];exact(aK _ _ cM).trans (aa w _)
 have k1:w1.heap[w.heap.size+1]?=some (.cells #[.I,.z,.n,.U,.U,.U,.I,.U,.V,.V,.V,.n,.n] 47 (0,0)):=by
  have:=aa (w.alloc (.cells #[.b ok,.s op,.slice oa on oc,.i ov,.bool os,.bool oe,.slice pa pn pc] 35)) (.cells #[.I,.z,.n,.U,.U,.U,.I,.U,.V,.V,.V,.n,.n] 47);rw[aH] at this;rw[hw1];exact this
 have kX:w1.rangeAt w.heap.size 0 [.b ok,.s op,.slice oa on oc,.i ov,.bool os,.bool oe,.slice pa pn pc]:=fun j u hu=>by
  rw[ay,af _ _ j _ 35 (0,0) k0];simpa using hu
 have sG:Hid (cG 35 7):=cD cJ;have mh:Hid (cG 47 13):=cD cJ;have D1:=D.below dB;have H1:=cD (cC dB (cC hs1 (cC k0 (cC k1 (cC hw1 kX)))));have hg:=D1.told_none op hp h;have HG:=cD hg;have y1:w1.cell? ⟨w.heap.size,1,none⟩=some (.s op):=kX 1 _ rfl;clear D D1 hg h dB hs1 k0 k1 hw1 kX;go_enter func259,ntmps259
 go_wp2_with (rw[←H1.out.2.2.2.2.1])
 refine HG.out.mono ?_;rintro e w2 ⟨rfl,B2⟩;have iK:=cD (H1.out.1.trans (B2.mono H1.out.1.size));clear B2;unfold fR;go_wp2
 exact⟨rfl,rfl,iK.out⟩
theorem dx.aaM(D:dx X w0 w d b cP cS cnt M dh v L E)(r:di)(o:fh){lo:Nat→Prop}(hr:fo w lo r o)(hp:o.cW.length≤1000){nd:Nd}(h:dL o.cW M=some nd):
  aI prog 259 #[.p d,r.val] w (kV X w0 w d b cP cS cnt M M dh v E ⟨o.cW,nd,[]⟩):=by
 obtain⟨ok,op,oa,on,oc,ov,os,oe,pa,pn,pc⟩:=r;obtain⟨Ja,Uz,gr,over,sK,sL⟩:=o;obtain⟨q1,q2,q3,q4,q5,q6,q7,q8⟩:=hr;clear q6 q7 q8;dsimp only at q1 q2 q3 q4 q5 hp h;subst q1 q2 q3 q4 q5;unfold di.val di.cells;dsimp only;obtain⟨w1,hw1⟩:=cF ((w.alloc (.cells #[.b ok,.s op,.slice oa on oc,.i ov,.bool os,.bool oe,.slice pa pn pc] 35)).alloc (.cells #[.I,.z,.n,.U,.U,.U,.I,.U,.V,.V,.V,.n,.n] 47));have dB:cE w w1:=by rw[hw1];exact cT (cT (ag _ w) _) _
 have hs1:w1.heap.size=w.heap.size+2:=by rw[hw1];simp
 have k0:w1.heap[w.heap.size]?=some (.cells #[.b ok,.s op,.slice oa on oc,.i ov,.bool os,.bool oe,.slice pa pn pc] 35 (0,0)):=by rw[hw1];exact(aK _ _ cM).trans (aa w _)
 have k1:w1.heap[w.heap.size+1]?=some (.cells #[.I,.z,.n,.U,.U,.U,.I,.U,.V,.V,.V,.n,.n] 47 (0,0)):=by
  have:=aa (w.alloc (.cells #[.b ok,.s op,.slice oa on oc,.i ov,.bool os,.bool oe,.slice pa pn pc] 35)) (.cells #[.I,.z,.n,.U,.U,.U,.I,.U,.V,.V,.V,.n,.n] 47);rw[aH] at this;rw[hw1];exact this
 have kX:w1.rangeAt w.heap.size 0 [.b ok,.s op,.slice oa on oc,.i ov,.bool os,.bool oe,.slice pa pn pc]:=fun j u hu=>by
  rw[ay,af _ _ j _ 35 (0,0) k0];simpa using hu
 have sG:Hid (cG 35 7):=cD cJ;have mh:Hid (cG 47 13):=cD cJ;have D1:=D.below dB;have H1:=cD (cC dB (cC hs1 (cC k0 (cC k1 (cC hw1 kX)))));have hg:=D1.si op hp h;have HG:=cD hg;have HD:=cD D;have y1:w1.cell? ⟨w.heap.size,1,none⟩=some (.s op):=kX 1 _ rfl;clear D D1 hg h dB hs1 k0 k1 hw1 kX;go_enter func259,ntmps259
 go_wp2_with (rw[←H1.out.2.2.2.2.1])
 refine HG.out.mono ?_;rintro e w2 ⟨r,rfl,hrd,B2,hfree⟩;obtain⟨ra,rn,rc,⟨r1,r2,r3,r4,r5,r6,r7,r8⟩⟩:=r;unfold eL Raw.cells eU.cells;dsimp only[aL,aN];have ht2:w2.there (w.heap.size+1) 0 13:=eE ((B2.block _ (by have:=H1.out.2.1;omega)).trans H1.out.2.2.2.1) cM;have H2:=cD (cC ht2 (cC hrd B2));clear ht2 hrd B2 hfree;have gG:Hid ((#[.I,.s op,.slice ra rn rc,.u r1,.u r2,.u r3,.i r4,.u r5,.v r6,.v r7,.v r8,.n,.n]:Array an).all (·.oneCell')=true):=cD (by simp[au]);go_wp2_with (refine aC rfl 47 (.tmp 4) (.tmp 8) rfl (w.heap.size+1) 0 #[.I,.s op,.slice ra rn rc,.u r1,.u r2,.u r3,.i r4,.u r5,.v r6,.v r7,.v r8,.n,.n] rfl rfl H2.out.1 mh.out gG.out ?_)
 refine aJ (dz rfl _ _ (w.heap.size+1) 0 [.I,.s op,.slice ra rn rc,.u r1,.u r2,.u r3,.i r4,.u r5,.v r6,.v r7,.v r8,.n,.n] _ rfl (ah _ _ _ _ H2.out.1) underlying47 rfl mh.out) rfl ?_;obtain⟨dB,hs1,k0,k1,_,_⟩:=H1.out;obtain⟨g1,g2,g3⟩:=H2.out;have K9:cQ (·=w.heap.size+1) w2 (w2.setCells (w.heap.size+1) 0 [.I,.s op,.slice ra rn rc,.u r1,.u r2,.u r3,.i r4,.u r5,.v r6,.v r7,.v r8,.n,.n]):=cQ.setCells (S:=(·=w.heap.size+1)) (p:=w.heap.size+1) rfl _ 0 (cQ.refl _ w2);have dI:cE w w2:=dB.trans (g3.mono dB.size);have D9:=(HD.out.below dI).iN ((g3.block (w.heap.size+1) cK).trans k1) kL cL cL cL (by have:=HD.out.tree.bl.size;omega) K9;refine⟨⟨v,_,⟨ra,rn,rc,⟨r1,r2,r3,r4,r5,r6,r7,r8⟩⟩,none,0,rfl,D9,fun k h=>.inl h,?_,gK.nil _ _ _⟩,?_⟩
 ·refine(g2.cells (fun k hk e=>by have hk:w1.heap.size≤k:=hk;omega) _).mono (fun k hk=>?_)
  have hk:w1.heap.size≤k:=hk;refine⟨by omega,fun e=>?_⟩;have:=(HD.out.row.own.lt k e).2;omega
 exact(cQ.eT dI).GQ K9 cK
end
theorem nA(w:aj)(ok:Int)(op:cO)(oa:Option aV)(on oc:Nat)(ov:Int)(os oe:Bool)(pa:Option aV)(pn pc:Nat):
  ∃w1,w1=(w.alloc (.cells #[.b ok,.s op,.slice oa on oc,.i ov,.bool os,.bool oe,.slice pa pn pc] 35)).alloc (.cells #[.I,.z,.n,.U,.U,.U,.I,.U,.V,.V,.V,.n,.n] 47)∧cE w w1∧w1.heap.size=w.heap.size+2
   ∧w1.heap[w.heap.size]?=some (.cells #[.b ok,.s op,.slice oa on oc,.i ov,.bool os,.bool oe,.slice pa pn pc] 35 (0,0))∧w1.heap[w.heap.size+1]?=some (.cells #[.I,.z,.n,.U,.U,.U,.I,.U,.V,.V,.V,.n,.n] 47 (0,0))∧w1.rangeAt w.heap.size 0 [.b ok,.s op,.slice oa on oc,.i ov,.bool os,.bool oe,.slice pa pn pc]:=by
 have k0:((w.alloc (.cells #[.b ok,.s op,.slice oa on oc,.i ov,.bool os,.bool oe,.slice pa pn pc] 35)).alloc (.cells #[.I,.z,.n,.U,.U,.U,.I,.U,.V,.V,.V,.n,.n] 47)).heap[w.heap.size]?=some (.cells #[.b ok,.s op,.slice oa on oc,.i ov,.bool os,.bool oe,.slice pa pn pc] 35 (0,0)):=(aK _ _ cM).trans (aa w _);refine⟨_,rfl,cT (cT (ag _ w) _) _,by simp,k0,?_,?_⟩
 ·have:=aa (w.alloc (.cells #[.b ok,.s op,.slice oa on oc,.i ov,.bool os,.bool oe,.slice pa pn pc] 35)) (.cells #[.I,.z,.n,.U,.U,.U,.I,.U,.V,.V,.V,.n,.n] 47)
  rw[aH] at this;exact this
 intro j u hu;rw[ay,af _ _ j _ 35 (0,0) k0];simpa using hu
theorem mR{w:aj}{b o B o':Nat}{cs cs':List an}(h:w.rangeAt b o cs)(hn:b≠B):(w.setCells B o' cs').rangeAt b o cs:=fun j u hu=>by
 have hk:cQ (·=B) w (w.setCells B o' cs'):=cQ.setCells (S:=(·=B)) (p:=B) rfl _ o' (cQ.refl _ w);have h1:=h j u hu;exact(hk.cell (p:=⟨b,o+j,none⟩) (World.block_lt_of_cell? _ _ h1) (fun e=>hn e)).trans h1
section
variable{X:Nat→Prop}{w0 w:World}{d b:Nat}{cP:cO}{cS cnt:Int}{M:List (cO×Nd)}{dh:eF}{v:Value}{L:List dr}{E:List gm}
theorem dx.TC(D:dx X w0 w d b cP cS cnt M dh v L E)(r:di)(o:fh){lo:Nat→Prop}(hr:fo w lo r o)(hp:o.cW.length≤1000){nd:Nd}(h:dL o.cW M=some nd)(hv:¬(0≤o.gW∧o.gW≠IntKind.i64.wrap nd.num.gW)):
  aI prog 258 #[.p d,r.val] w (kV X w0 w d b cP cS cnt M M dh v E ⟨o.cW,nd,[]⟩):=by
 obtain⟨ok,op,oa,on,oc,ov,os,oe,pa,pn,pc⟩:=r;obtain⟨Ja,Uz,gr,over,sK,sL⟩:=o;obtain⟨q1,q2,q3,q4,q5,q6,q7,q8⟩:=hr;clear q6 q7 q8;dsimp only at q1 q2 q3 q4 q5 hp h hv;subst q1 q2 q3 q4 q5;unfold di.val di.cells
 try dsimp only
 obtain⟨w1,hw1,dB,hs1,k0,k1,kX⟩:=nA w ok op oa on oc ov os oe pa pn pc;have sG:Hid (cG 35 7):=cD cJ;have mh:Hid (cG 47 13):=cD cJ;have D1:=D.below dB;have H1:=cD (cC dB (cC hs1 (cC k0 (cC k1 (cC hw1 kX)))));have hg:=fun(w':aj) (hb:cE w1 w')=>(D1.below hb).Jt ⟨ok,op,oa,on,oc,ov,os,oe,pa,pn,pc⟩ hp h hv
 unfold di.val di.cells at hg;dsimp only at hg;have HG:=cD hg;have HD:=cD D;have y1:∀w',aF w' w.heap.size 0 [.b ok,.s op,.slice oa on oc,.i ov,.bool os,.bool oe,.slice pa pn pc]→w'.cell? ⟨w.heap.size,1,none⟩=some (.s op):=fun w' h=>h 1 _ rfl
 have hs0:w.heap.size<w1.heap.size:=by omega
 have FL:=cD kX;clear D D1 hg dB hs1 k0 k1 hw1 kX h hv;go_enter func258,ntmps258
 go_wp2_with fail
 rw[←H1.out.2.2.2.2.1];refine aE (S:=fun w'=>aF w' w.heap.size 0 [.b ok,.s op,.slice oa on oc,.i ov,.bool os,.bool oe,.slice pa pn pc]) cJ FL.out (fun hS=>?_);refine tI 0 rfl hS ?_;refine tJ 1 rfl hS y1 ?_;refine tI 2 rfl hS ?_;refine tL 3 rfl hS 35 (.tmp 3) w.heap.size 0 [.b ok,.s op,.slice oa on oc,.i ov,.bool os,.bool oe,.slice pa pn pc] (fun _ h=>h) underlying35 sG.out ?_;simp only[cR];refine cI 4 rfl ?_;refine(HG.out _ (ag _ _).drew).mono ?_;rintro e w2 ⟨⟨ra,rn,rc,⟨r1,r2,r3,r4,r5,r6,r7,r8⟩⟩,rfl,hrd,B2',hfree⟩;have B2:cE w1 w2:=(ag _ w1).drew.trans B2';have ht2:w2.there (w.heap.size+1) 0 13:=eE ((B2.block _ (by have:=H1.out.2.1;omega)).trans H1.out.2.2.2.1) cM;have ct:aF w2 w.heap.size 0 [.b ok,.s op,.slice oa on oc,.i ov,.bool os,.bool oe,.slice pa pn pc]:=dR FL.out B2 hs0;have H2:=cD (cC ht2 (cC hrd B2));clear ht2 hrd B2 B2' hfree hS;unfold Raw.val Raw.cells eU.cells
 try dsimp only
 refine⟨ct,?_⟩
 try dsimp only
 simp only[cR];refine tI 5 rfl ct ?_;simp only[cR];have gG:Hid ((#[.I,.s op,.slice ra rn rc,.u r1,.u r2,.u r3,.i r4,.u r5,.v r6,.v r7,.v r8,.n,.n]:Array an).all (·.oneCell')=true):=cD (by simp[au]);refine sI 6 rfl 47 (.tmp 4) (.tmp 10) (w.heap.size+1) 0 #[.I,.s op,.slice ra rn rc,.u r1,.u r2,.u r3,.i r4,.u r5,.v r6,.v r7,.v r8,.n,.n] H2.out.1 mh.out gG.out (mR ct cK) ?_;simp only[cR];refine aO cJ ?_ _;go_wp2_with fail
 refine aJ (dz rfl _ _ (w.heap.size+1) 0 [.I,.s op,.slice ra rn rc,.u r1,.u r2,.u r3,.i r4,.u r5,.v r6,.v r7,.v r8,.n,.n] _ rfl (ah _ _ _ _ H2.out.1) underlying47 rfl mh.out) rfl ?_;obtain⟨dB,hs1,k0,k1,_,_⟩:=H1.out;obtain⟨g1,g2,g3⟩:=H2.out;have K9:cQ (·=w.heap.size+1) w2 (w2.setCells (w.heap.size+1) 0 [.I,.s op,.slice ra rn rc,.u r1,.u r2,.u r3,.i r4,.u r5,.v r6,.v r7,.v r8,.n,.n]):=cQ.setCells (S:=(·=w.heap.size+1)) (p:=w.heap.size+1) rfl _ 0 (cQ.refl _ w2);have dI:cE w w2:=dB.trans (g3.mono dB.size);have D9:=(HD.out.below dI).iN ((g3.block (w.heap.size+1) cK).trans k1) kL cL cL cL (by have:=HD.out.tree.bl.size;omega) K9;refine⟨⟨v,_,⟨ra,rn,rc,⟨r1,r2,r3,r4,r5,r6,r7,r8⟩⟩,none,0,rfl,D9,fun k h=>.inl h,?_,gK.nil _ _ _⟩,?_⟩
 ·refine(g2.cells (fun k hk e=>by have hk:w1.heap.size≤k:=hk;omega) _).mono (fun k hk=>?_)
  have hk:w1.heap.size≤k:=hk;refine⟨by omega,fun e=>?_⟩;have:=(HD.out.row.own.lt k e).2;omega
 exact(cQ.eT dI).GQ K9 cK
theorem dx.PM(D:dx X w0 w d b cP cS cnt M dh v L E)(r:di)(o:fh){lo:Nat→Prop}(hr:fo w lo r o)(hp:o.cW.length≤1000){x:Int}(h:mI M o=x)(hv:x≠0):
  aI prog 258 #[.p d,r.val] w (mD w x):=by
 obtain⟨ok,op,oa,on,oc,ov,os,oe,pa,pn,pc⟩:=r;obtain⟨Ja,Uz,gr,over,sK,sL⟩:=o;obtain⟨q1,q2,q3,q4,q5,q6,q7,q8⟩:=hr;clear q6 q7 q8;dsimp only at q1 q2 q3 q4 q5 hp h hv;subst q1 q2 q3 q4 q5;unfold di.val di.cells
 try dsimp only
 obtain⟨w1,hw1,dB,hs1,k0,k1,kX⟩:=nA w ok op oa on oc ov os oe pa pn pc;have sG:Hid (cG 35 7):=cD cJ;have mh:Hid (cG 47 13):=cD cJ;have D1:=D.below dB;have H1:=cD (cC dB (cC hs1 (cC k0 (cC k1 (cC hw1 kX)))));have hg:=fun(w':aj) (hb:cE w1 w')=>(D1.below hb).Ej ⟨ok,op,oa,on,oc,ov,os,oe,pa,pn,pc⟩ ⟨ok,op,gr,ov,os,oe⟩ rfl rfl hp h hv
 unfold di.val di.cells mD at hg;dsimp only at hg;have HG:=cD hg;have y1:∀w',aF w' w.heap.size 0 [.b ok,.s op,.slice oa on oc,.i ov,.bool os,.bool oe,.slice pa pn pc]→w'.cell? ⟨w.heap.size,1,none⟩=some (.s op):=fun w' h=>h 1 _ rfl
 have hs0:w.heap.size<w1.heap.size:=by omega
 have FL:=cD kX;clear D D1 hg dB hs1 k0 k1 hw1 kX h hv;go_enter func258,ntmps258
 go_wp2_with fail
 rw[←H1.out.2.2.2.2.1];refine aE (S:=fun w'=>aF w' w.heap.size 0 [.b ok,.s op,.slice oa on oc,.i ov,.bool os,.bool oe,.slice pa pn pc]) cJ FL.out (fun hS=>?_);refine tI 0 rfl hS ?_;refine tJ 1 rfl hS y1 ?_;refine tI 2 rfl hS ?_;refine tL 3 rfl hS 35 (.tmp 3) w.heap.size 0 [.b ok,.s op,.slice oa on oc,.i ov,.bool os,.bool oe,.slice pa pn pc] (fun _ h=>h) underlying35 sG.out ?_;simp only[cR];refine cI 4 rfl ?_;refine(HG.out _ (ag _ _).drew).mono ?_;rintro e w2 ⟨rfl,B2'⟩;have iK:=cD (H1.out.1.trans (((ag _ w1).drew.trans B2').mono H1.out.1.size));clear B2' hS;unfold fR
 try dsimp only
 go_wp2_with fail
 exact⟨rfl,rfl,iK.out⟩
end
theorem Reads.dZ{w w':aj}{lo S:Nat→Prop}{r:Raw}{nd:Nd}(h:Reads w lo r nd)(hk:cQ S w w')(hn:∀k,lo k→k<w.heap.size→¬S k):Reads w' lo r nd:=
 ⟨h.num,h.len,(h.data.kept hk (aB _) (fun b hb hl _=>hn b hb hl)).mono (fun _ h=>h) hk.size,h.nil⟩
theorem Rm(x:Int)(p:ByteArray)(a k q:Option aV)(n c r1 r2 r3 r4 r5 r6 r7 r8 kn kc qn qc):∀y∈(#[.i x,.string p,.slice a n c,.u r1,.u r2,.u r3,.i r4,.u r5,.v r6,.v r7,.v r8,.slice k kn kc,.slice q qn qc]:Array an).toList,∀m,y≠.b m:=by
 intro y hy m;simp at hy;rcases hy with rfl|rfl|rfl|rfl|rfl|rfl|rfl|rfl|rfl|rfl|rfl|rfl|rfl<;>simp
section
variable{X:Nat→Prop}{w0 w:World}{d b:Nat}{cP:cO}{cS cnt:Int}{M:List (cO×Nd)}{dh:eF}{v:Value}{L:List dr}{E:List gm}
theorem dx.XH(D:dx X w0 w d b cP cS cnt M dh v L E)(p:cO):
  aI prog 20 #[.p b,.s p] w fun e w'=>∃a c,e=.returned (.slice a (lY cP M p).length c)∧gK w' (fU w.heap.size) a (lY cP M p)∧cE w w':=by
 have R:=D.tree;obtain⟨lo,mb,T⟩:=R.tree;refine(T.Ht R.short R.max R.fit.cW p).mono ?_;rintro e w' ⟨v,rfl,hr,hb⟩;rcases hr with ⟨rfl,h0⟩|⟨g,cap,rfl,h2,h3,h4,h5⟩
 ·rw[h0]
  exact⟨none,0,rfl,gK.nil _ _ _,hb⟩
 refine⟨_,cap,rfl,fun k q hk=>⟨g,0,rfl,h2,h3,?_⟩,hb⟩;rw[ay];exact h5 k q hk
theorem dx.OU(D:dx X w0 w d b cP cS cnt M dh v L E)(r:di)(o:fh){lo:Nat→Prop}(hr:fo w lo r o)(hp:o.cW.length≤1000)(h:dL o.cW M=none):
  aI prog 260 #[.p d,r.val] w (mD w 31):=by
 obtain⟨ok,op,oa,on,oc,ov,os,oe,pa,pn,pc⟩:=r;obtain⟨Ja,Uz,gr,over,sK,sL⟩:=o;obtain⟨q1,q2,q3,q4,q5,q6,q7,q8⟩:=hr;clear q6 q7 q8;dsimp only at q1 q2 q3 q4 q5 hp h;subst q1 q2 q3 q4 q5;unfold di.val di.cells
 try dsimp only
 obtain⟨w1,hw1,dB,hs1,k0,k1,kX⟩:=nA w ok op oa on oc ov os oe pa pn pc;have sG:Hid (cG 35 7):=cD cJ;have mh:Hid (cG 47 13):=cD cJ;have D1:=D.below dB;have H1:=cD (cC dB (cC hs1 (cC k0 (cC k1 (cC hw1 kX)))));have y1:w1.cell? ⟨w.heap.size,1,none⟩=some (.s op):=kX 1 _ rfl;have hg:=D1.told_none op hp h;have HG:=cD hg;clear D D1 hg h dB hs1 k0 k1 hw1 kX;go_enter func260,ntmps260
 go_wp2_with (rw[←H1.out.2.2.2.2.1])
 refine HG.out.mono ?_;rintro e w2 ⟨rfl,B2⟩;have iK:=cD (H1.out.1.trans (B2.mono H1.out.1.size));clear B2;unfold fR;go_wp2
 exact⟨rfl,rfl,iK.out⟩
theorem dx.V6(D:dx X w0 w d b cP cS cnt M dh v L E)(r:di)(o:fh){lo:Nat→Prop}(hr:fo w lo r o)(hp:o.cW.length≤1000){nd:Nd}(h:dL o.cW M=some nd):
  aI prog 260 #[.p d,r.val] w (kV X w0 w d b cP cS cnt M M dh v E ⟨o.cW,nd,lY cP M o.cW⟩):=by
 obtain⟨ok,op,oa,on,oc,ov,os,oe,pa,pn,pc⟩:=r;obtain⟨Ja,Uz,gr,over,sK,sL⟩:=o;obtain⟨q1,q2,q3,q4,q5,q6,q7,q8⟩:=hr;clear q6 q7 q8;dsimp only at q1 q2 q3 q4 q5 hp h;subst q1 q2 q3 q4 q5;unfold di.val di.cells
 try dsimp only
 obtain⟨w1,hw1,dB,hs1,k0,k1,kX⟩:=nA w ok op oa on oc ov os oe pa pn pc;have sG:Hid (cG 35 7):=cD cJ;have mh:Hid (cG 47 13):=cD cJ;have D1:=D.below dB;have H1:=cD (cC dB (cC hs1 (cC k0 (cC k1 (cC hw1 kX)))));have y1:w1.cell? ⟨w.heap.size,1,none⟩=some (.s op):=kX 1 _ rfl;have hg:=D1.si op hp h;have HG:=cD hg;have HD:=cD D;have HDL:=cD D.lt;clear D D1 hg h dB hs1 k0 k1 hw1 kX;go_enter func260,ntmps260
 go_wp2_with (rw[←H1.out.2.2.2.2.1])
 refine HG.out.mono ?_;rintro e w2 ⟨⟨ra,rn,rc,⟨r1,r2,r3,r4,r5,r6,r7,r8⟩⟩,rfl,hrd,B2,hfree⟩;unfold eL Raw.cells eU.cells;dsimp only[aL,aN];obtain⟨w3,kJ⟩:=cF (w2.alloc (.cells #[.I,.s op,.slice ra rn rc,.u r1,.u r2,.u r3,.i r4,.u r5,.v r6,.v r7,.v r8,.n,.n] 47));have eO:cE w2 w3:=by rw[kJ];exact cT (ag _ w2) _
 have k3:w3.heap[w2.heap.size]?=some (.cells #[.I,.s op,.slice ra rn rc,.u r1,.u r2,.u r3,.i r4,.u r5,.v r6,.v r7,.v r8,.n,.n] 47 (0,0)):=by rw[kJ];exact aa w2 _
 have iU:cE w1 w3:=B2.trans (eO.mono B2.size);have hs3:w3.heap.size=w2.heap.size+1:=by rw[kJ];simp
 have D3:=(HD.out.below H1.out.1).below iU;have y0:∀w',cQ (·=w2.heap.size) w3 w'→w'.cell? ⟨d,0,none⟩=some (.p b):=fun w' hk=>(hk.cell (p:=⟨d,0,none⟩) D3.lt (fun e=>by have e:d=w2.heap.size:=e;have:=HDL.out;have:=B2.size;have:=H1.out.2.1;omega)).trans D3.c0
 have y2:∀w',cQ (·=w2.heap.size) w3 w'→w'.cell? ⟨w.heap.size,1,none⟩=some (.s op):=fun w' hk=>(hk.cell (p:=⟨w.heap.size,1,none⟩) (by have:=B2.size;have:=H1.out.2.1;show w.heap.size<w3.heap.size;omega) (fun e=>by have e:w.heap.size=w2.heap.size:=e;have:=B2.size;have:=H1.out.2.1;omega)).trans ((iU.cell (p:=⟨w.heap.size,1,none⟩) (by have:=H1.out.2.1;show w.heap.size<w1.heap.size;omega)).trans y1)
 have HC:=cD ((D3.below (ag _ w3).drew).XH op);have H3:=cD (cC kJ (cC eO (cC k3 (cC iU (cC hs3 (cC hrd B2))))));have uz:Hid (cQ (·=w2.heap.size) w3 w3.drew):=cD (cQ.refl _ w3).drew;clear eO k3 iU hs3 D3 hrd B2 hfree kJ;go_wp2_with fail
 rw[←H3.out.1];refine aE (S:=cQ (·=w2.heap.size) w3) cJ uz.out (fun hS=>?_);refine tI 0 rfl hS ?_;refine tI 1 rfl hS ?_;refine tI 2 rfl hS ?_;refine tJ 3 rfl hS y0 ?_;simp only[cR];refine tI 4 rfl hS ?_;refine tJ 5 rfl hS y2 ?_;simp only[cR];refine cI 6 rfl ?_;refine HC.out.mono ?_;rintro e w4 ⟨ka,kc,rfl,FR,QH⟩;obtain⟨kn,hkn⟩:=cF ((lY cP M op).length);rw[←hkn];have B4:cE w3 w4:=(ag _ w3).drew.trans QH;have S4:cQ (·=w2.heap.size) w3 w4:=cQ.eT B4;have k4:w4.heap[w2.heap.size]?=some (.cells #[.I,.s op,.slice ra rn rc,.u r1,.u r2,.u r3,.i r4,.u r5,.v r6,.v r7,.v r8,.n,.n] 47 (0,0)):=(B4.block _ (by have:=H3.out.2.2.2.2.1;omega)).trans H3.out.2.2.1;have c4:w4.cell? ⟨w2.heap.size,11,none⟩=some (.n):=af _ _ 11 _ 47 (0,0) k4;have f4:w4.frozen? ⟨w2.heap.size,11,none⟩=false:=by simp[aG,k4]
 obtain⟨w5,nI⟩:=cF (w4.setCell ⟨w2.heap.size,11,none⟩ (.slice ka kn kc));have K5:cQ (·=w2.heap.size) w4 w5:=by rw[nI];exact cQ.setCell (S:=(·=w2.heap.size)) (p:=⟨w2.heap.size,11,none⟩) (cQ.refl _ w4) rfl _
 have S5:cQ (·=w2.heap.size) w3 w5:=S4.trans K5;have k5:w5.heap[w2.heap.size]?=some (.cells #[.I,.s op,.slice ra rn rc,.u r1,.u r2,.u r3,.i r4,.u r5,.v r6,.v r7,.v r8,.slice ka kn kc,.n] 47 (0,0)):=by
  rw[nI];simp[aM,aD,k4]
 have Qo:w5.there (w.heap.size+1) 0 13:=eE ((K5.block (w.heap.size+1) (by have:=B4.size;have:=H3.out.2.2.2.2.1;have:=H3.out.2.2.2.2.2.2.size;have:=H1.out.2.1;omega) (fun e=>by have e:w.heap.size+1=w2.heap.size:=e;have:=H3.out.2.2.2.2.2.2.size;have:=H1.out.2.1;omega)).trans ((B4.block (w.heap.size+1) (by have:=H3.out.2.2.2.2.1;have:=H3.out.2.2.2.2.2.2.size;have:=H1.out.2.1;omega)).trans ((H3.out.2.2.2.1.block (w.heap.size+1) (by have:=H1.out.2.1;omega)).trans H1.out.2.2.2.1))) cM;have Wn:w5.rangeAt w2.heap.size 0 [.I,.s op,.slice ra rn rc,.u r1,.u r2,.u r3,.i r4,.u r5,.v r6,.v r7,.v r8,.slice ka kn kc,.n]:=fun j u hu=>by
  rw[ay,af _ _ j _ 47 (0,0) k5];simpa using hu
 have H4:=cD (cC FR (cC B4 (cC k4 (cC K5 (cC k5 (cC Qo (cC Wn (cC nI hkn))))))));clear FR QH B4 k4 K5 k5 Qo Wn hkn;refine⟨S4,?_⟩
 try dsimp only
 simp only[cR];refine tI 7 rfl S4 ?_;simp only[cR];refine aeZ 8 rfl cJ cN w5 (by rw[nI];go_simp<;>first|rfl|exact⟨rfl,rfl⟩) S5 ?_;clear nI c4 f4 S4 S5 y0 y2 hS;simp only[cR];refine aO cJ ?_ _;have gG:Hid ((#[.I,.s op,.slice ra rn rc,.u r1,.u r2,.u r3,.i r4,.u r5,.v r6,.v r7,.v r8,.slice ka kn kc,.n]:Array an).all (·.oneCell')=true):=cD (by simp[au]);go_wp2_with (first
  |(refine aA rfl 47 (.tmp 5) rfl w2.heap.size 0 rfl [.I,.s op,.slice ra rn rc,.u r1,.u r2,.u r3,.i r4,.u r5,.v r6,.v r7,.v r8,.slice ka kn kc,.n] _ H4.out.2.2.2.2.2.2.1 underlying47 rfl mh.out ?_)
  |(refine aC rfl 47 (.tmp 4) (.tmp 18) rfl (w.heap.size+1) 0 #[.I,.s op,.slice ra rn rc,.u r1,.u r2,.u r3,.i r4,.u r5,.v r6,.v r7,.v r8,.slice ka kn kc,.n] rfl rfl H4.out.2.2.2.2.2.1 mh.out gG.out ?_))
 refine aJ (dz rfl _ _ (w.heap.size+1) 0 [.I,.s op,.slice ra rn rc,.u r1,.u r2,.u r3,.i r4,.u r5,.v r6,.v r7,.v r8,.slice ka kn kc,.n] _ rfl (ah _ _ _ _ H4.out.2.2.2.2.2.1) underlying47 rfl mh.out) rfl ?_;obtain⟨dB,hs1,k0,k1,_,_⟩:=H1.out;obtain⟨_,g2,g3,g4,g5,g6,g7⟩:=H3.out;obtain⟨h1,h2,h3,h4,h5,h6,h7,_,hkn⟩:=H4.out;have s12:=g7.size;have s34:=h2.size;have s45:=h4.size;have K9:cQ (·=w.heap.size+1) w5 (w5.setCells (w.heap.size+1) 0 [.I,.s op,.slice ra rn rc,.u r1,.u r2,.u r3,.i r4,.u r5,.v r6,.v r7,.v r8,.slice ka kn kc,.n]):=cQ.setCells (S:=(·=w.heap.size+1)) (p:=w.heap.size+1) rfl _ 0 (cQ.refl _ w5);have Cy:cE w w3:=dB.trans (g4.mono dB.size);have hb4:cE w w4:=Cy.trans (h2.mono Cy.size);have k1':w5.heap[w.heap.size+1]?=_:=(h4.block (w.heap.size+1) cK (fun e=>by have e:w.heap.size+1=w2.heap.size:=e;omega)).trans ((h2.block (w.heap.size+1) cK).trans ((g4.block (w.heap.size+1) cK).trans k1));have D5:=(HD.out.below hb4).iN h3 (Rm _ _ _ _ _ _ _ _ _ _ _ _ _ _ _ _ _ _ _) cL cL cL (by have:=HD.out.tree.bl.size;omega) h4;have D9:=D5.iN k1' kL cL cL cL (by have:=HD.out.tree.bl.size;omega) K9;have hvl:∀k,v.ownBlock=some k→k<w.heap.size:=fun k e=>(HD.out.row.own.lt k e).2
 subst hkn;refine⟨⟨v,_,⟨ra,rn,rc,⟨r1,r2,r3,r4,r5,r6,r7,r8⟩⟩,ka,kc,rfl,D9,fun k h=>.inl h,?_,?_⟩,?_⟩
 ·have e1:=g6.monoB (lo':=fun k=>w1.heap.size≤k∧k<w2.heap.size) (fun k hk hl=>⟨hk,hl⟩)
  have e2:=e1.dZ (cQ.eT (S:=fun _=>False) (g2.trans (h2.mono g2.size))) (fun _ _ _ h=>h);have e3:=e2.dZ h4 (fun k hk _ e=>by have e:k=w2.heap.size:=e;omega);have e4:=e3.dZ K9 (fun k hk _ e=>by have e:k=w.heap.size+1:=e;omega);exact e4.mono (fun k hk=>⟨by omega,fun e=>by have:=hvl k e;omega⟩)
 ·have e3:=h1.dZ h4 (fun k hk _ e=>by have hk:w3.heap.size≤k:=hk;have e:k=w2.heap.size:=e;omega)
  have e4:=e3.dZ K9 (fun k hk _ e=>by have hk:w3.heap.size≤k:=hk;have e:k=w.heap.size+1:=e;omega);exact e4.mono (fun k hk _=>by have hk:w3.heap.size≤k:=hk;exact⟨by omega,fun e=>by have:=hvl k e;omega⟩)
 have q1:cQ (fun k=>k=b∨k=d∨v.ownBlock=some k) w w5:=(cQ.eT hb4).GQ h4 cK;exact q1.GQ K9 cK
end
theorem iY(t:Bool)(x:Int)(w:aj):aI prog 183 #[.bool t,.i x] w fun e w'=>w=w'∧(t=true∧e=.returned (.tuple #[])∨t=false∧e=fR x):=by
 cases t
 ·exact(ER x w).mono fun e w' ⟨h1,h2⟩=>⟨h2.symm,.inr ⟨rfl,h1⟩⟩
 exact(vE x w).mono fun e w' ⟨h1,h2⟩=>⟨h2.symm,.inl ⟨rfl,h1⟩⟩
section
variable{X:Nat→Prop}{w0 w:World}{d b:Nat}{cP:cO}{cS cnt:Int}{M:List (cO×Nd)}{dh:eF}{v:Value}{L:List dr}{E:List gm}
theorem Fit.node(h:Fit M){p:cO}{nd:Nd}(hg:dL p M=some nd):nd.data.length≤1000000:=by
 obtain⟨x,hx,rfl⟩:=pM hg;exact h.data x hx
theorem Fit.key(h:Fit M){p:cO}{nd:Nd}(hg:dL p M=some nd):p.length≤1000:=by
 have:=ic.1 (show(dL p M).isSome=true by rw[hg];rfl);obtain⟨x,hx,rfl⟩:=List.mem_map.1 this;exact h.cW x hx
theorem dx.U8(D:dx X w0 w d b cP cS cnt M dh v L E)(r:di)(o:fh)(h1:r.cW=o.cW)(h2:r.gW=o.gW)(hp:o.cW.length≤1000):
  aI prog 296 #[.p d,r.val] w fun e w'=>(mI M o=0∧(∃r':Raw,e=.returned r'.val)∧cE w w')∨(mI M o≠0∧e=fR (mI M o)∧cE w w'):=by
 by_cases h:mI M o=0
 ·obtain⟨nd,hnd,Sn⟩:=ko h
  refine(D.Jt (nd:=nd) r (by rw[h1];exact hp) (by rw[h1];exact hnd) (by rw[h2];exact Sn)).mono fun e w' hh=>?_
  obtain⟨r',g1,_,g3,_⟩:=hh;exact .inl ⟨h,⟨r',g1⟩,g3⟩
 exact(D.Ej r o h1 h2 hp rfl h).mono fun e w' ⟨h1,h3⟩=>.inr ⟨h,h1,h3⟩
theorem dx.JT(D:dx X w0 w d b cP cS cnt M dh v L E)(h0:0≤cnt)(h1:cnt≤100000)(hsz:E.length≤900)(r:di)(o:fh){lo:Nat→Prop}(hr:fo w lo r o)(hp:o.cW.length≤1000){x:Int}(hx:js cP M o=x):
  aI prog 256 #[.p d,r.val] w fun e w'=>(x=0∧kV X w0 w d b cP cS (cnt+1) M (vt M cS o) dh v (E++jO M cS o) ⟨o.cW,iQ,[]⟩ e w')∨(x≠0∧mD w x e w'):=by
 obtain⟨ok,op,oa,on,oc,ov,os,oe,pa,pn,pc⟩:=r;obtain⟨Ja,Uz,gr,over,sK,sL⟩:=o;obtain⟨q1,q2,q3,q4,q5,q6,q7,q8⟩:=hr;clear q6 q7 q8;dsimp only at q1 q2 q3 q4 q5 hp;subst q1 q2 q3 q4 q5;unfold di.val di.cells
 try dsimp only
 obtain⟨w1,hw1,dB,hs1,k0,k1,kX⟩:=nA w ok op oa on oc ov os oe pa pn pc;have sG:Hid (cG 35 7):=cD cJ;have mh:Hid (cG 47 13):=cD cJ;have D1:=D.below dB;have y1:∀w',cE w1 w'→w'.cell? ⟨w.heap.size,1,none⟩=some (.s op):=fun w' hb=>(hb.cell (p:=⟨w.heap.size,1,none⟩) (by show w.heap.size<w1.heap.size;omega)).trans (kX 1 _ rfl)
 have y0:∀w',cE w1 w'→w'.cell? ⟨d,0,none⟩=some (.p b):=fun w' hb=>(hb.cell (p:=⟨d,0,none⟩) D1.lt).trans D1.c0
 have HRT:Hid (∀w',cE w1 w'→aI prog 184 #[.p b] w' fun e w''=>e=.returned (.s cP)∧w''=w'):=cD fun w' hb=>by
  obtain⟨lo,mb,T⟩:=(D1.below hb).tree.tree;exact T.Aq
 have hv:=fun(w':aj) (hb:cE w1 w')=>(D1.below hb).U8 ⟨ok,op,oa,on,oc,ov,os,oe,pa,pn,pc⟩ ⟨ok,op,gr,ov,os,oe⟩ rfl rfl hp
 unfold di.val di.cells at hv;dsimp only at hv;have HV:=cD hv;have HX:=cD hx;obtain⟨t1,ht1⟩:=cF (decide (op=cP));have te:=(J9 ht1.symm).1;have yZ:=cD ht1;have HD:=cD (cC D (cC D1 (cC h0 (cC h1 hsz))));have hdl:=D.lt;have Xo:=cD kX;have H1:=cD (cC dB (cC hs1 (cC k0 (cC k1 hw1))));clear D D1 hx hv ht1 h0 h1 hsz dB hs1 k0 k1 hw1 kX;go_enter func256,ntmps256
 go_wp2_with fail
 rw[←H1.out.2.2.2.2];refine aE (S:=Below w1.heap.size w1) cJ (ag _ w1).drew (fun hS=>?_);refine tI 0 rfl hS ?_;refine tJ 1 rfl hS y1 ?_;refine tI 2 rfl hS ?_;refine tI 3 rfl hS ?_;simp only[cR];refine tI 4 rfl hS ?_;refine tJ 5 rfl hS y0 ?_;simp only[cR];refine cI 6 rfl ?_;refine(HRT.out _ hS).mono ?_;rintro e w2 ⟨rfl,rfl⟩;refine⟨hS,?_⟩
 try dsimp only
 simp only[cR];refine tI 7 rfl hS ?_;simp only[cR];refine cI 8 rfl ?_;refine(iY _ _ _).mono ?_;rintro e w2 ⟨rfl,(⟨ht,rfl⟩|⟨ht,rfl⟩)⟩
 rotate_left
 ·have HS:=cD hS
  have HT:=cD ht;clear hS ht;unfold fR
  try dsimp only
  go_wp2_with fail
  have e1:t1=true:=by simpa using HT.out
  have e2:op=cP:=by have:=yZ.out;rw[e1] at this;simpa using this.symm
  have e3:x=30:=by rw[←HX.out];unfold js;rw[if_pos e2]
  subst e3;exact⟨rfl,.inr ⟨by decide,rfl,H1.out.1.trans (HS.out.mono H1.out.1.size)⟩⟩
 refine⟨hS,?_⟩;have HT:=cD ht;clear ht
 try dsimp only
 simp only[cR];refine aO cJ ?_ _;have hne:Hid (op≠cP):=cD (by
  have e1:t1=false:=by simpa using HT.out
  have:=yZ.out;rw[e1] at this;simpa using this.symm)
 have FL:Hid (aF w1.drew w.heap.size 0 [.b ok,.s op,.slice oa on oc,.i ov,.bool os,.bool oe,.slice pa pn pc]):=cD Xo.out;clear te HT yZ;have sH:=cD hS;clear hS;go_wp2_with (refine aA rfl 35 (.tmp 3) rfl w.heap.size 0 rfl [.b ok,.s op,.slice oa on oc,.i ov,.bool os,.bool oe,.slice pa pn pc] _ FL.out underlying35 rfl sG.out ?_)
 refine(HV.out _ sH.out).mono ?_;rintro e w3 (⟨Qm,⟨r',rfl⟩,wP⟩|⟨Qm,rfl,wP⟩)
 rotate_left
 ·have HS:=cD (cC Qm (sH.out.trans wP))
  clear Qm wP;unfold fR;go_wp2_with fail
  have e3:x=mI M ⟨ok,op,gr,ov,os,oe⟩:=by rw[←HX.out];unfold js;rw[if_neg hne.out,if_pos HS.out.1]
  exact⟨rfl,.inr ⟨by rw[e3];exact HS.out.1,by rw[e3];rfl,H1.out.1.trans (HS.out.2.mono H1.out.1.size)⟩⟩
 have B3:cE w1 w3:=sH.out.trans wP;have mQ:=cD B3;have Ue:=cD Qm;clear B3 wP Qm;obtain⟨kn,hkn⟩:=cF ((lY cP M op).length);obtain⟨t2,ht2⟩:=cF (decide (kn=0));have tk:((kn:Int)==0)=t2:=by rw[ht2];by_cases h:kn=0<;>simp[h]
 have tk2:(kn==0)=t2:=by rw[ht2];by_cases h:kn=0<;>simp[h]
 have tk3:decide (kn=0)=t2:=ht2.symm;have tk4:decide ((kn:Int)=0)=t2:=by rw[ht2];by_cases h:kn=0<;>simp[h]
 have HKN:=cD (cC hkn ht2);have HKC:Hid (∀w',cE w1 w'→aI prog 20 #[.p b,.s op] w' fun e w''=>∃a c,e=.returned (.slice a kn c)∧cE w1 w''):=cD fun w' hb=>((HD.out.2.1.below hb).XH op).mono fun e w'' ⟨a,c,h1,_,h3⟩=>⟨a,c,by rw[HKN.out.1];exact h1,hb.trans (h3.mono hb.size)⟩
 clear hkn ht2;go_wp2_with fail
 refine aE (S:=Below w1.heap.size w1) cJ mQ.out.drew (fun hS=>?_);refine tI 0 rfl hS ?_;refine tI 1 rfl hS ?_;refine tI 2 rfl hS ?_;refine tJ 3 rfl hS y0 ?_;simp only[cR];refine tI 4 rfl hS ?_;refine tJ 5 rfl hS y1 ?_;simp only[cR];refine cI 6 rfl ?_;refine(HKC.out _ hS).mono ?_;rintro e w4 ⟨ka,kc,rfl,B4⟩;refine⟨B4,?_⟩
 try dsimp only
 simp only[cR];refine tI 7 rfl B4 ?_;refine tI 8 rfl B4 ?_;simp only[cR];refine cI 9 rfl ?_;refine(iY _ _ _).mono ?_;rintro e w5 ⟨rfl,(⟨ht,rfl⟩|⟨ht,rfl⟩)⟩
 rotate_left
 ·have HS:=cD (cC B4 ht)
  clear hS ht B4;unfold fR
  try dsimp only
  go_wp2_with fail
  have e1:t2=false:=by simpa using HS.out.2
  have e2:¬kn=0:=by have:=HKN.out.2;rw[e1] at this;simpa using this.symm
  have e3:x=33:=by rw[←HX.out];unfold js;rw[if_neg hne.out,if_neg (by simpa using Ue.out),if_pos (by have:=HKN.out.1;dsimp only;omega)]
  subst e3;exact⟨rfl,.inr ⟨by decide,rfl,H1.out.1.trans (HS.out.1.mono H1.out.1.size)⟩⟩
 refine⟨B4,?_⟩;have FK:=cD (cC B4 ht);clear ht tk tk2 tk3 tk4 hS
 try dsimp only
 simp only[cR];refine aO cJ ?_ _;have hx0:Hid (x=0∧js cP M ⟨ok,op,gr,ov,os,oe⟩=0):=cD (by
  have e1:t2=true:=by simpa using FK.out.2
  have e2:kn=0:=by have:=HKN.out.2;rw[e1] at this;simpa using this.symm
  have e3:js cP M ⟨ok,op,gr,ov,os,oe⟩=0:=by unfold js;rw[if_neg hne.out,if_neg (by simpa using Ue.out),if_neg (by have:=HKN.out.1;dsimp only;omega)]
  exact⟨by rw[←HX.out];exact e3,e3⟩)
 obtain⟨nd,hnd,_⟩:=ko Ue.out;dsimp only at hnd;have Sz:op∈M.map (·.1):=ic.1 (show(dL op M).isSome=true by rw[hnd];rfl);have adk:=HD.out.1.inv.under op Sz;have hpar:=HD.out.1.inv.parent op Sz hne.out;obtain⟨u,hu⟩:∃u,dL (dm op) M=some u:=Option.isSome_iff_exists.1 (ic.2 hpar);have HTO:=cD (fun(w':aj) (hb:cE w1 w')=>(HD.out.2.1.below hb).uU (HD.out.2.1.below hb).tree.max op hp hu);have HFX:=cD (cC (yj (cS:=cS) HD.out.1.inv adk hx0.out.2) (cC hu (cC (HD.out.1.tree.fit.key hu) (HD.out.1.tree.fit.node hu))));have yp:∀w',(fun w':aj=>w'.cell? ⟨w.heap.size,1,none⟩=some (.s op)) w'→w'.cell? ⟨w.heap.size,1,none⟩=some (.s op):=fun w' h=>h
 have HYP:Hid (w4.drew.cell? ⟨w.heap.size,1,none⟩=some (.s op)):=cD (y1 _ B4.drew);clear hnd Sz adk hpar hu y0 B4;go_wp2_with fail
 refine aE (S:=fun w'=>w'.cell? ⟨w.heap.size,1,none⟩=some (.s op)) cJ HYP.out (fun hS=>?_);refine tI 0 rfl hS ?_;refine tI 1 rfl hS ?_;refine tJ 2 rfl hS yp ?_;refine tI 3 rfl hS ?_;simp only[cR];refine tI 4 rfl hS ?_;refine tI 5 rfl hS ?_;refine tJ 6 rfl hS yp ?_;simp only[cR];refine cI 7 rfl ?_;refine(HTO.out _ FK.out.1.drew).mono ?_;rintro e w5 ⟨⟨ra,rn,rc,⟨r1,r2,r3,r4,r5,r6,r7,r8⟩⟩,rfl,hrd,YV,hfree⟩;have B5:cE w1 w5:=FK.out.1.drew.trans (YV.mono FK.out.1.size);have oM:=y1 _ B5;unfold dr.val dr.cells Raw.cells eU.cells;dsimp only[aL,aN];refine⟨oM,?_⟩
 try dsimp only
 simp only[cR];obtain⟨w6,mU⟩:=cF (w5.alloc (.cells #[.s op,.T,.n,.U,.U,.U,.I,.U,.V,.V,.V,.string (bs (dm op)),.F,.slice ra rn rc,.u r1,.u r2,.u r3,.i r4,.u r5,.v r6,.v r7,.v r8] 93));have B6':cE w5 w6:=by rw[mU];exact cT (ag _ w5) _
 have B6:cE w1 w6:=B5.trans (B6'.mono B5.size);have uh:=y1 _ B6;have MN:w6.heap.size=w5.heap.size+1:=by rw[mU];simp
 have Yn:gH w6 w6.heap.size (some ⟨w5.heap.size,0,none⟩) [⟨op,true,oS⟩,⟨dm op,false,⟨ra,rn,rc,⟨r1,r2,r3,r4,r5,r6,r7,r8⟩⟩⟩]:=by rw[mU];exact It w5 ⟨op,true,oS⟩ ⟨dm op,false,⟨ra,rn,rc,⟨r1,r2,r3,r4,r5,r6,r7,r8⟩⟩⟩
 have Ym:ff w6 (fU w4.heap.size) [⟨op,true,oS⟩,⟨dm op,false,⟨ra,rn,rc,⟨r1,r2,r3,r4,r5,r6,r7,r8⟩⟩⟩] (jO M cS ⟨ok,op,gr,ov,os,oe⟩):=by
  unfold jO
  try dsimp only
  rw[HFX.out.2.1];exact G4 (r:=⟨op,true,oS⟩) ⟨rfl,rfl,mX _ _⟩ ⟨rfl,rfl,hrd.below B6'⟩
 have D6:=HD.out.2.1.below B6;have DH:=D6.Fs HD.out.2.2.1 HD.out.2.2.2.1 (gb:=w5.heap.size) (go_:=0) (n:=2) (c:=2) (Lx:=[⟨op,true,oS⟩,⟨dm op,false,⟨ra,rn,rc,⟨r1,r2,r3,r4,r5,r6,r7,r8⟩⟩⟩]) (Ex:=jO M cS ⟨ok,op,gr,ov,os,oe⟩) rfl Yn (by have h2:=HD.out.1.tree.lt;have h3:=B5.size;have:=H1.out.2.1;omega) Ym
  (by intro k hk;have hk:w4.heap.size≤k:=hk;have:=FK.out.1.size;have:=H1.out.2.1;exact⟨fun e=>by have:=(HD.out.1.row.own.lt k e).2;omega,fun e=>by have:=HD.out.1.old k e;omega⟩)
  (by
   intro y hy;simp[jO] at hy;rcases hy with rfl|rfl
   ·exact⟨hp,by show iQ.data.length≤1000000;simp[iQ]⟩
   refine⟨HFX.out.2.2.1,?_⟩;show(Cg _ cS).data.length≤1000000;rw[HFX.out.2.1];exact HFX.out.2.2.2) HFX.out.1 (by have:=HD.out.1.len;have:=HD.out.2.2.2.2;omega)
 have Xs:=cD DH;have H6:=cD (cC B6 MN);have Ef:=cD mU;clear hrd YV hfree Yn Ym D6 DH B6' B6 MN B5;refine sB 8 rfl cJ cN (.slice (some ⟨w5.heap.size,0,none⟩) 2 2) w6 (by rw[Ef.out];go_simp<;>first|rfl|exact⟨rfl,rfl⟩) uh ?_;clear mU oM hS;simp only[cR];refine cI 9 rfl ?_;refine Xs.out.mono ?_;rintro e w8 ⟨rfl,⟨v8,D8,G8⟩,K8⟩;have jt:b<w.heap.size:=HD.out.1.tree.lt;have hvl:∀k,v.ownBlock=some k→k<w.heap.size:=fun k h=>(HD.out.1.row.own.lt k h).2
 have hnk:∀k,w.heap.size≤k→¬(k=b∨k=d∨v.ownBlock=some k):=fun k hk h=>by
  rcases h with h|h|h
  ·omega
  ·omega
  have:=hvl k h;omega
 have O5:=H6.out.1.size;have hs1:=H1.out.2.1;have jP:w8.cell? ⟨w.heap.size,1,none⟩=some (.s op):=(K8.cell (p:=⟨w.heap.size,1,none⟩) (by show w.heap.size<w6.heap.size;omega) (hnk _ (aB _))).trans uh;have k8:=(K8.block (w.heap.size+1) cK (hnk _ (bg _))).trans ((H6.out.1.block (w.heap.size+1) cK).trans H1.out.2.2.2.1);have ht8:w8.there (w.heap.size+1) 0 13:=eE k8 cM;have H8:=cD (cC D8 (cC K8 (cC k8 (cC hnk (cC G8 ht8)))));clear D8 K8 k8 hnk G8 ht8 O5 hs1 jt hvl;refine⟨jP,?_⟩;clear uh
 try dsimp only
 simp only[cR];refine aO cJ ?_ _;have gG:Hid ((#[.I,.s op,.n,.U,.U,.U,.I,.U,.V,.V,.V,.n,.n]:Array an).all (·.oneCell')=true):=cD (by simp[au]);go_wp2_with (refine aC rfl 47 (.tmp 4) (.tmp 39) rfl (w.heap.size+1) 0 #[.I,.s op,.n,.U,.U,.U,.I,.U,.V,.V,.V,.n,.n] rfl rfl H8.out.2.2.2.2.2 mh.out gG.out ?_)
 refine aJ (dz rfl _ _ (w.heap.size+1) 0 [.I,.s op,.n,.U,.U,.U,.I,.U,.V,.V,.V,.n,.n] _ rfl (ah _ _ _ _ H8.out.2.2.2.2.2) underlying47 rfl mh.out) rfl ?_;obtain⟨dB,hs1,k0,k1,_⟩:=H1.out;obtain⟨D8,K8,k8,hnk,G8,ht8⟩:=H8.out;have s6:=H6.out.1.size;have s8:=K8.size;have K9:cQ (·=w.heap.size+1) w8 (w8.setCells (w.heap.size+1) 0 [.I,.s op,.n,.U,.U,.U,.I,.U,.V,.V,.V,.n,.n]):=cQ.setCells (S:=(·=w.heap.size+1)) (p:=w.heap.size+1) rfl _ 0 (cQ.refl _ w8);have D9:=D8.iN k8 kL cL cL cL (by have:=HD.out.1.tree.bl.size;omega) K9;have uE:cE w w6:=dB.trans (H6.out.1.mono dB.size);have q8:cQ (fun k=>k=b∨k=d∨v.ownBlock=some k) w w8:=(cQ.eT uE).trans K8;refine .inl ⟨hx0.out.1,⟨v8,_,oS,none,0,rfl,D9,?_,mX _ _,gK.nil _ _ _⟩,q8.GQ K9 cK⟩;intro k hk;rcases G8 k hk with h|h
 ·exact .inl h
 exact .inr cK
end
theorem LB(w:aj):(bG Value.nilIface 20 25 true).run prog w=.ok (.tuple #[.I,.F]) w:=by kernel_rfl
theorem LC(x:Int)(w:aj):(bG (.iface 25 (.i x)) 20 25 true).run prog w=.ok (.tuple #[.i x,.T]) w:=by kernel_rfl
theorem Lv(p:aV)(w:aj):
  CallsD prog 182 #[.pointer (some p)] .returning w fun e u' w'=>e=.returned (.tuple #[])∧u'=.returning∧w'=w:=by
 have h1:=LB;refine callsD_of_wpS func182 rfl fun c₀ cs hu=>?_
 apply wpS_seq;apply bz;simp[wpOpsS,go_sem,recoverD,hu,h1,ntmps182,bh];apply wpS_seq;apply bz;simp[wpOpsS,go_sem,recoverD,hu,h1,ntmps182,bh];refine wpS_cond (t:=false) (by simp[Act.eval,aZ]) ?_;simp only[Bool.false_eq_true,if_false];refine wpS_of_wp (wp_skip ?_);cases c₀
 simp_all [bodyPostS,results,Tryz.results182]
theorem zC(B:Nat)(x:Int)(older:List aY)(w:aj)(ht:w.there B 0 13):
  CallsD prog 182 #[.p B] (.panicking ({v:=.iface 25 (.i x),recovered:=false}::older)) w fun e u' w'=>
   e=.returned (.tuple #[])∧u'=.panicking ({v:=.iface 25 (.i x),recovered:=true}::older)∧w'=w.setCells B 0 [.i x,.z,.n,.U,.U,.U,.I,.U,.V,.V,.V,.n,.n]:=by
 have h1:=LC x;have mh:Hid (cG 47 13):=cD cJ;have gG:Hid ((#[.i x,.z,.n,.U,.U,.U,.I,.U,.V,.V,.V,.n,.n]:Array an).all (·.oneCell')=true):=cD (by simp[au]);refine callsD_of_wpS func182 rfl fun c₀ cs hu=>?_
 apply wpS_seq;apply bz;simp[wpOpsS,go_sem,recoverD,hu,h1,ntmps182,bh];apply wpS_seq;apply bz;simp[wpOpsS,go_sem,recoverD,hu,h1,ntmps182,bh];refine wpS_cond (t:=true) (by simp[Act.eval,aZ]) ?_;simp only[if_true];refine wpS_of_wp ?_;have er:(aZ 10 aT:Array an)=#[aT,aT,aT,aT,aT,aT,aT,aT,aT,aT]:=rfl;rw[er];simp only[List.setIfInBounds_toArray,List.set_cons_succ,List.set_cons_zero,List.append_toArray,aL,aN];go_wp2_with (refine aC rfl 47 (.tmp 0) (.tmp 10) rfl B 0 #[.i x,.z,.n,.U,.U,.U,.I,.U,.V,.V,.V,.n,.n] rfl rfl ht mh.out gG.out ?_)
 exact⟨rfl,_,rfl,_,bC rfl _ _ _,rfl,rfl,rfl⟩
def wG(p:an)(ds:List Deferred)(R:List aY→aj→Prop)(K:Act→aj→Prop):Exit→Act→aj→Prop
 |.panic c,a,w=>a.tmps.getD 4 aT=p∧a.defers=ds∧R c w
 |.normal,a,w=>K a w
 |_,_,_=>False
theorem gY{p:an}{ds:List Deferred}{R:List aY→aj→Prop}{K:Act→aj→Prop}{c:List aY}{a:Act}{dst:Option Tmp}{v:an}{w:aj}(hd:dst≠some 4)(h:wG p ds R K (.panic c) (a.put dst v) w):wG p ds R K (.panic c) a w:=by
 obtain⟨h1,h2,h3⟩:=h;cases dst with
 |none=>exact⟨h1,h2,h3⟩
 |some k=>
 refine⟨?_,h2,h3⟩;have hk:k≠4:=fun e=>hd (by rw[e])
 rw[←h1];simp[Act.put,Array.getD_eq_getD_getElem?,Array.getElem?_setIfInBounds,hk]
theorem sY{P:Program}{c:Code}{Q:Exit→Act→aj→Prop}{a:Act}{w:aj}(p:an)(ds:List Deferred)(R:List aY→aj→Prop)
  (hp:∀chain a w,a.tmps.getD 4 aT=p→a.defers=ds→R chain w→Q (.panic chain) a w)
  (h:c.wp P (wG p ds R (Q .normal)) a w):c.wp P Q a w:=by
 refine Code.wp_mono ?_ h;intro e a w h;cases e with
 |normal=>exact h
 |panic c=>exact hp c a w h.1 h.2.1 h.2.2
 |_=>exact(h:False).elim
theorem iH:cG 47 13:=cH
theorem yN{tmps:Array an}{B:Nat}{x:Int}{w':aj}{R:aW→aj→Prop}(hp:tmps.getD 4 aT=.p B)(ht:w'.there B 0 13)
  (hR:R (.returned (.agg #[.i x,.z,.n,.U,.U,.U,.I,.U,.V,.V,.V,.n,.n])) (w'.setCells B 0 [.i x,.z,.n,.U,.U,.U,.I,.U,.V,.V,.V,.n,.n])):
  Leaves prog Tryz.f74 tmps R [{target:=.fn (.func 182) #[.p B],args:=#[]}] (.panicking [{v:=WQ x,recovered:=false}]) w':=by
 refine leaves_cons (f:=182) (args:=#[.p B]) cM (by simp[go_sem]) ?_;refine(zC B x [] w' ht).mono ?_;rintro e u' w'' ⟨rfl,rfl,rfl⟩;exact⟨_,dz rfl tmps _ B 0 [.i x,.z,.n,.U,.U,.U,.I,.U,.V,.V,.V,.n,.n] _ hp (ah _ _ _ _ ht) underlying47 rfl iH,hR⟩
theorem Fv{tmps:Array an}{B:Nat}{cs:List an}{w':aj}{R:aW→aj→Prop}(hp:tmps.getD 4 aT=.p B)(hc:w'.rangeAt B 0 cs)(hl:cs.length=13)
  (hR:R (.returned (.agg cs.toArray)) w'):
  Leaves prog Tryz.f74 tmps R [{target:=.fn (.func 182) #[.p B],args:=#[]}] .returning w':=by
 refine leaves_cons (f:=182) (args:=#[.p B]) cM (by simp[go_sem]) ?_;refine(Lv ⟨B,0,none⟩ w').mono ?_;rintro e u' w'' ⟨rfl,rfl,rfl⟩;exact⟨_,dz rfl tmps _ B 0 cs _ hp hc underlying47 rfl (by rw[hl];exact iH),hR⟩
theorem kV.box{X:Nat→Prop}{w0 w w2 w3:aj}{d b:Nat}{cP:cO}{cS cnt:Int}{M M':List (cO×Nd)}{dh:eF}{v:an}{E:List gm}{A:I7}{e:aW}(h:kV X w0 w2 d b cP cS cnt M M' dh v E A e w3)(hb:cE w w2){B:Nat}(hB:w.heap.size≤B)(DJ:B<w2.heap.size)
  (hk:w2.heap[B]?=some (.cells #[.I,.z,.n,.U,.U,.U,.I,.U,.V,.V,.V,.n,.n] 47 (0,0))) (hd:d<w.heap.size) (jt:b<w.heap.size) (hv:∀k,v.ownBlock=some k→k<w.heap.size) (h0:w0.heap.size≤w.heap.size) (cs:List an):
  kV X w0 w d b cP cS cnt M M' dh v E A e (w3.setCells B 0 cs):=by
 obtain⟨⟨v',L',r,ka,kc,he,D,G,hr,Fa⟩,K⟩:=h;have k3:=(K.block B DJ (fun e=>by
  rcases e with e|e|e
  ·omega
  ·omega
  have:=hv B e;omega)).trans hk
 have K9:cQ (·=B) w3 (w3.setCells B 0 cs):=cQ.setCells (S:=(·=B)) (p:=B) rfl _ 0 (cQ.refl _ w3);have D9:=D.iN k3 kL cL cL cL cK K9;have hs:=hb.size;refine⟨⟨v',L',r,ka,kc,he,D9,fun k e=>(G k e).imp id (fun h=>by omega),?_,?_⟩,?_⟩
 ·exact(hr.dZ K9 (fun k h1 _ e=>by have e:k=B:=e;have:=h1.1;omega)).monoB (fun k h1 _=>⟨by have:=h1.1;omega,h1.2⟩)
 ·exact(Fa.dZ K9 (fun k h1 _ e=>by have e:k=B:=e;have:=h1.1;omega)).mono (fun k h1 _=>⟨by have:=h1.1;omega,h1.2⟩)
 exact((cQ.eT hb).trans K).GQ K9 hB
section
variable{X:Nat→Prop}{w0 w:World}{d b:Nat}{cP:cO}{cS cnt:Int}{M:List (cO×Nd)}{dh:eF}{v:Value}{L:List dr}{E:List gm}
def lQ(X:Nat→Prop)(w0 w:aj)(d b:Nat)(cP:cO)(cS cnt:Int)(M:List (cO×Nd))(dh:eF)(v:an)(E:List gm)(o:fh)(e:aW)(w':aj):Prop:=
 (mj cP M dh o=0∧∃xQ,cnt≤xQ∧xQ≤cnt+1∧kV X w0 w d b cP cS xQ M (oP cP M cS dh o) dh v (E++jW cP M cS dh o) (Co cP M cS dh o) e w')∨(mj cP M dh o≠0∧mD w (mj cP M dh o) e w')
def BO(X:Nat→Prop)(w0 w:aj)(d b:Nat)(cP:cO)(cS cnt:Int)(M:List (cO×Nd))(dh:eF)(v:an)(E:List gm)(o:fh)(e:aW)(w':aj):Prop:=
 (mj cP M dh o=0∧∃xQ,cnt≤xQ∧xQ≤cnt+1∧kV X w0 w d b cP cS xQ M (oP cP M cS dh o) dh v (E++jW cP M cS dh o) (Co cP M cS dh o) e w')∨(mj cP M dh o≠0∧e=.returned (.agg (eL (mj cP M dh o) [] oS none 0 0 none 0 0).toArray)∧cE w w')
theorem Oj{o:fh}(h:eB o.cW cP=false):mj cP M dh o=30:=by unfold mj;rw[if_pos h]
theorem Sc{n f:Nat}(h:dL n OW=some f):∃l,keyOf prog 5 (oK n)=some l:=by
 have hn:n=1∨n=2∨n=3∨n=4∨n=5∨n=6:=by
  have:=pL (a:=n) (m:=OW);by_cases h1:n=1∨n=2∨n=3∨n=4∨n=5∨n=6
  ·exact h1
  have h2:dL n OW=none:=this.2 (fun p hp=>by
   simp[OW] at hp;rcases hp with rfl|rfl|rfl|rfl|rfl|rfl<;>(show _≠n;simp;omega))
  rw[h2] at h;cases h
 rcases hn with rfl|rfl|rfl|rfl|rfl|rfl<;>exact⟨_,rfl⟩
theorem YY{w:aj}:(zeroValue 117).run prog w=.ok .nilFunc w:=by kernel_rfl
theorem dx.su(D:dx X w0 w d b cP cS cnt M dh v L E)(r:di)(o:fh){lo:Nat→Prop}(hr:fo w lo r o)(hp:o.cW.length≤1000)(f:Nat)(hf:dL r.kind.toNat OW=some f)(hk0:0≤r.kind)(Ig:∀args w,(callFunc f args).run prog w=.ok (.enter f args) w)
  (hm:eB o.cW cP=true→∀w',cE w w'→aI prog f #[.p d,r.val] w' (lQ X w0 w' d b cP cS cnt M dh v E o)):
  aI prog 74 #[.p d,r.val] w (BO X w0 w d b cP cS cnt M dh v E o):=by
 obtain⟨ok,op,oa,on,oc,ov,os,oe,pa,pn,pc⟩:=r;obtain⟨Ja,Uz,gr,over,sK,sL⟩:=o;obtain⟨q1,q2,q3,q4,q5,q6,q7,q8⟩:=hr;clear q1 q3 q4 q5 q6 q7 q8;dsimp only at q2 hf hk0 hp hm;subst q2;obtain⟨kn,rfl⟩:∃kn:Nat,ok=kn:=⟨ok.toNat,by omega⟩;rw[Int.toNat_natCast] at hf;unfold di.val di.cells at hm⊢;dsimp only at hm⊢;obtain⟨w1,hw1,dB,hs1,k0,k1,kX⟩:=nA w (kn:Int) op oa on oc ov os oe pa pn pc;have sG:Hid (cG 35 7):=cD cJ;have mh:Hid (cG 47 13):=cD iH;have D1:=D.below dB;have y1:∀w',cE w1 w'→w'.cell? ⟨w.heap.size,1,none⟩=some (.s op):=fun w' hb=>(hb.cell (p:=⟨w.heap.size,1,none⟩) (by show w.heap.size<w1.heap.size;omega)).trans (kX 1 _ rfl)
 have y0:∀w',cE w1 w'→w'.cell? ⟨d,0,none⟩=some (.p b):=fun w' hb=>(hb.cell (p:=⟨d,0,none⟩) D1.lt).trans D1.c0
 have HRT:Hid (∀w',cE w1 w'→aI prog 184 #[.p b] w' fun e w''=>e=.returned (.s cP)∧w''=w'):=cD fun w' hb=>by
  obtain⟨lo,mb,T⟩:=(D1.below hb).tree.tree;exact T.Aq
 have HU:=cD (ry w1 D1.tree.max op cP hp D.tree.rl);obtain⟨t1,ht1⟩:=cF (eB op cP);rw[←ht1] at HU;have yZ:=cD ht1;have HD:=cD (cC D D1);have hdl:=D.lt;have Xo:=cD kX;have HM:=cD hm;have HFF:=cD hf;have H1:=cD (cC dB (cC hs1 (cC k0 (cC k1 hw1))));have hmf:∀(fn:Fn) (first cap:Array an) (w:aj),(Instr.makeFunc fn first cap).run prog w=.ok (.func fn first cap) w:=fun _ _ _ _=>rfl
 clear D D1 ht1 dB hs1 k0 k1 hw1 kX hm hf;go_enter_defers func74,ntmps74
 go_wp2_with fail
 rw[←H1.out.2.2.2.2];refine sY (.p (w.heap.size+1)) [{target:=.fn (.func 182) #[.p (w.heap.size+1)],args:=#[]}] (fun c w'=>c=[{v:=WQ 30,recovered:=false}]∧t1=false∧cE w1 w') ?_ ?_
 ·rintro chain a w' h1 h2 ⟨rfl,ht,hb⟩
  change Leaves _ _ a.tmps _ a.defers _ w'
  rw[h2];obtain⟨dB,hs1,k0,k1,_⟩:=H1.out;have ht1:w'.there (w.heap.size+1) 0 13:=eE ((hb.block _ cK).trans k1) cM;have K9:cQ (·=w.heap.size+1) w' (w'.setCells (w.heap.size+1) 0 [.i 30,.z,.n,.U,.U,.U,.I,.U,.V,.V,.V,.n,.n]):=cQ.setCells (S:=(·=w.heap.size+1)) (p:=w.heap.size+1) rfl _ 0 (cQ.refl _ w');have dI:cE w w':=dB.trans (hb.mono dB.size);have he:mj cP M dh ⟨Ja,op,gr,over,sK,sL⟩=30:=Oj (by rw[←yZ.out];exact ht);refine yN h1 ht1 (.inr ⟨by rw[he];decide,by rw[he];rfl,dI.trans (K9.below dI.size (fun k e=>by have e:k=w.heap.size+1:=e;omega))⟩)
 refine aE (S:=Below w1.heap.size w1) cJ (ag _ w1).drew (fun hS=>?_);refine jd 0 rfl cJ cJ cJ cN hS (fun w' hS'=>by go_simp<;>rfl) (fun _ _ _ h=>gY cL h) ?_;simp only[cR];refine jd 1 rfl cJ cJ cJ cN hS (fun w' hS'=>by have:=y1 w' hS';go_simp<;>rfl) (fun _ _ _ h=>gY cL h) ?_;simp only[cR];refine jd 2 rfl cJ cJ cJ cN hS (fun w' hS'=>by go_simp<;>rfl) (fun _ _ _ h=>gY cL h) ?_;simp only[cR];refine jd 3 rfl cJ cJ cJ cN hS (fun w' hS'=>by go_simp<;>rfl) (fun _ _ _ h=>gY cL h) ?_;simp only[cR];refine jd 4 rfl cJ cJ cJ cN hS (fun w' hS'=>by go_simp<;>rfl) (fun _ _ _ h=>gY cL h) ?_;simp only[cR];refine jd 5 rfl cJ cJ cJ cN hS (fun w' hS'=>by have:=y0 w' hS';go_simp<;>rfl) (fun _ _ _ h=>gY cL h) ?_;simp only[cR];refine cI 6 rfl ?_;refine(HRT.out _ hS).mono ?_;rintro e w2 ⟨rfl,rfl⟩;refine⟨hS,?_⟩
 try dsimp only
 simp only[cR];refine cI 7 rfl ?_;refine(HU.out _ (hS)).mono ?_;rintro e w2 ⟨rfl,B2⟩;refine⟨B2,?_⟩
 try dsimp only
 simp only[cR];refine cI 8 rfl ?_;refine(iY _ _ _).mono ?_;rintro e w2' ⟨rfl,(⟨ht,rfl⟩|⟨ht,rfl⟩)⟩
 rotate_left
 ·exact⟨rfl,rfl,rfl,ht,B2⟩
 refine⟨B2,?_⟩;have iK:=cD (cC B2 (yZ.out.symm.trans ht));clear hS B2 ht y0
 try dsimp only
 simp only[cR];refine aO cJ ?_ _;simp only[wG];go_wp2_with fail
 have Jf:Hid (w2.drew.rangeAt w.heap.size 0 [.b (kn:Int),.s op,.slice oa on oc,.i ov,.bool os,.bool oe,.slice pa pn pc]):=cD (dR Xo.out iK.out.1.drew (by have:=H1.out.2.1;omega));have HDO:=cD (WW w2.drew);refine sY (.p (w.heap.size+1)) [{target:=.fn (.func 182) #[.p (w.heap.size+1)],args:=#[]}] (fun c w'=>c=[{v:=WQ (mj cP M dh ⟨Ja,op,gr,over,sK,sL⟩),recovered:=false}]∧mj cP M dh ⟨Ja,op,gr,over,sK,sL⟩≠0∧cE w1 w') ?_ ?_
 ·rintro chain a w' h1 h2 ⟨rfl,hx,hb⟩
  change Leaves _ _ a.tmps _ a.defers _ w'
  rw[h2];obtain⟨dB,hs1,k0,k1,_⟩:=H1.out;have ht1:w'.there (w.heap.size+1) 0 13:=eE ((hb.block _ cK).trans k1) cM;have K9:cQ (·=w.heap.size+1) w' (w'.setCells (w.heap.size+1) 0 [.i (mj cP M dh ⟨Ja,op,gr,over,sK,sL⟩),.z,.n,.U,.U,.U,.I,.U,.V,.V,.V,.n,.n]):=cQ.setCells (S:=(·=w.heap.size+1)) (p:=w.heap.size+1) rfl _ 0 (cQ.refl _ w');have dI:cE w w':=dB.trans (hb.mono dB.size);exact yN h1 ht1 (.inr ⟨hx,rfl,dI.trans (K9.below dI.size (fun k e=>by have e:k=w.heap.size+1:=e;omega))⟩)
 refine aE (S:=fun w'=>aF w' w.heap.size 0 [.b (kn:Int),.s op,.slice oa on oc,.i ov,.bool os,.bool oe,.slice pa pn pc]) cJ Jf.out (fun hS=>?_);have yk:∀w',aF w' w.heap.size 0 [.b (kn:Int),.s op,.slice oa on oc,.i ov,.bool os,.bool oe,.slice pa pn pc]→w'.cell? ⟨w.heap.size,0,none⟩=some (.b (kn:Int)):=fun w' h=>h 0 _ rfl
 refine jd 1 rfl cJ cJ cJ cN hS (fun w' hS'=>by go_simp<;>rfl) (fun _ _ _ h=>gY cL h) ?_;simp only[cR];refine jd 2 rfl cJ cJ cJ cN hS (fun w' hS'=>by have:=yk w' hS';go_simp<;>rfl) (fun _ _ _ h=>gY cL h) ?_;simp only[cR];refine jd 4 rfl cJ cJ cJ cN hS (fun w' hS'=>by go_simp<;>rfl) (fun _ _ _ h=>gY cL h) ?_;simp only[cR];refine CV 5 rfl cJ cJ cJ cN hS 35 (.tmp 3) rfl w.heap.size 0 rfl [.b (kn:Int),.s op,.slice oa on oc,.i ov,.bool os,.bool oe,.slice pa pn pc] _ (fun _ h=>h) underlying35 rfl sG.out (fun _ _ _ h=>gY cL h) ?_;simp only[cR];refine cI 0 rfl ?_;refine HDO.out.mono ?_;rintro e w3 ⟨mb,rfl,HT,hmb,wP⟩;have B3:cE w2 w3:=(ag _ w2).drew.trans wP;have YW:cE w1 w3:=iK.out.1.trans (B3.mono iK.out.1.size);have ek:aF w3 w.heap.size 0 [.b (kn:Int),.s op,.slice oa on oc,.i ov,.bool os,.bool oe,.slice pa pn pc]:=dR Xo.out YW (by have:=H1.out.2.1;omega);have hlk:(Instr.lookup 247 (.map (some mb)) (.b (kn:Int)) false).run prog w3=.ok (.func (.func f) #[] #[]) w3:=by
  obtain⟨l,hl⟩:=Sc HFF.out;have h:=dS.lookup HT iZ eN underlying247 YY (a:=kn) hl;rw[HFF.out] at h;exact h
 have H3:=cD (cC B3 YW);have LQ:=cD (HM.out iK.out.2 w3 (H1.out.1.trans (YW.mono H1.out.1.size)));clear B3 wP YW HT hmb;refine⟨ek,?_⟩
 try dsimp only
 simp only[cR];refine sB 3 rfl cJ cN (.func (.func f) #[] #[]) w3 (by have:=hlk;go_simp<;>first|rfl|exact⟨rfl,rfl⟩) ek ?_;clear hlk;simp only[cR];refine M8 6 rfl cJ cN _ _ (by have:=Ig;go_simp<;>first|rfl|exact⟨rfl,rfl⟩) ?_;refine LQ.out.mono ?_;rintro e w5 (⟨hx0,cnt2,c1,c2,OD⟩|⟨hx,rfl,B5⟩)
 rotate_left
 ·unfold fR
  exact⟨rfl,rfl,rfl,hx,H3.out.2.trans (B5.mono H3.out.2.size)⟩
 obtain⟨v5,L5,⟨ra,rn,rc,⟨r1,r2,r3,r4,r5,r6,r7,r8⟩⟩,ka,kc,he,_⟩:=OD.ret;subst he;have HOD:=cD OD;have hs1:=H1.out.2.1;have aij:=H3.out.2.size;have hvl:∀k,v.ownBlock=some k→k<w.heap.size:=fun k h=>(HD.out.1.row.own.lt k h).2
 have jt:=HD.out.1.tree.lt;have hnk:∀k,w.heap.size≤k→¬(k=b∨k=d∨v.ownBlock=some k):=fun k hk h=>by
  rcases h with h|h|h
  ·omega
  ·omega
  have:=hvl k h;omega
 have oM:aF w5 w.heap.size 0 [.b (kn:Int),.s op,.slice oa on oc,.i ov,.bool os,.bool oe,.slice pa pn pc]:=fun j u hu=>(OD.kept.cell (p:=⟨w.heap.size,0+j,none⟩) (by show w.heap.size<w3.heap.size;omega) (hnk _ (aB _))).trans (ek j u hu)
 have kb3:=(H3.out.2.block (w.heap.size+1) cK).trans H1.out.2.2.2.1;have Qo:w5.there (w.heap.size+1) 0 13:=eE ((OD.kept.block (w.heap.size+1) cK (hnk _ (bg _))).trans kb3) cM;have uz:=cD (cC kb3 Qo);have HNK:=cD (cC hvl jt);clear OD kb3 Qo hs1 aij hvl jt hnk;obtain⟨px,hpx⟩:=cF ((Co cP M cS dh ⟨Ja,op,gr,over,sK,sL⟩).cW);obtain⟨kl,hkl⟩:=cF ((Co cP M cS dh ⟨Ja,op,gr,over,sK,sL⟩).kids.length);rw[←hpx,←hkl] at HOD;rw[←hpx,←hkl];clear hpx hkl;unfold eL Raw.cells eU.cells
 try dsimp only[aL,aN]
 refine⟨oM,?_⟩
 try dsimp only
 simp only[cR];have gG:Hid ((#[.I,.s px,.slice ra rn rc,.u r1,.u r2,.u r3,.i r4,.u r5,.v r6,.v r7,.v r8,.slice ka kl kc,.n]:Array an).all (·.oneCell')=true):=cD (by simp[au]);refine sI 7 rfl 47 (.tmp 4) (.tmp 21) (w.heap.size+1) 0 #[.I,.s px,.slice ra rn rc,.u r1,.u r2,.u r3,.i r4,.u r5,.v r6,.v r7,.v r8,.slice ka kl kc,.n] uz.out.2 mh.out gG.out (mR oM cK) ?_;simp only[cR];refine aO cJ ?_ _;simp only[wG];go_wp2_with fail
 refine Fv rfl (ah _ _ _ _ uz.out.2) rfl (.inl ⟨hx0,cnt2,c1,c2,?_⟩);exact HOD.out.box (H1.out.1.trans (H3.out.2.mono H1.out.1.size)) (bg _) (by have:=H1.out.2.1;have:=H3.out.2.size;omega) uz.out.1 hdl HNK.out.2 HNK.out.1 HD.out.1.tree.bl.size _
end
end
