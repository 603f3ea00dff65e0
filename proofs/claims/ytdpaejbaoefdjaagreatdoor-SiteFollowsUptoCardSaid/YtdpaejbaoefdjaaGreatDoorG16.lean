/- Part 16. -/
import Derived.Test.YtdpaejbaoefdjaaGreatDoorG6
import Derived.Test.YtdpaejbaoefdjaaGreatDoorG12
import Derived.Test.YtdpaejbaoefdjaaGreatDoorG14
import Derived.Test.YtdpaejbaoefdjaaGreatDoorG4
import Derived.Laws.AppendOwnNone
open Go renaming World → aa,cell_of_row → af,Addr → aj,Calls → au,maxLen → aE,Value → aJ,heap_alloc_new → aM,lt_of_block → aP,heap_alloc_old → aX,TypeId → bg
open Nat renaming lt_of_lt_of_le → ag,le_refl → ah,ne_of_lt → aC,zero_add → aG,le_trans → aH,zero_le → aL,pow_le_pow_right → aZ
open Go.World renaming frozen? → an,setCell → aK,rangeAt_setCells_same → aT,ownsRow_made → aY
open Array renaming getElem?_modify → aq,getElem?_eq_some_iff → aU
open List renaming length_take → ay,length_drop → aD,eq_nil_of_length_eq_zero → aF,length_append → aI,take_of_length_le → aN,take_add_one → aQ,getElem?_map → aR,append_assoc → aS,getElem?_eq_getElem → aV,drop_eq_nil_of_le → aW
open Go.RowKit.Below renaming refl → aA
open Option renaming map_eq_some_iff → aB
open Go.Addr renaming add_mid → aO
namespace Go.Proofs.YtdpaejbaoefdjaaGreatDoor
open Go.Proofs.Tryz
set_option maxRecDepth 100000
set_option maxHeartbeats 64000000
set_option linter.unusedVariables false
set_option linter.unusedSimpArgs false
section
open Go.RowKit Go.Shelf Go.MapKept Go.ChangeMaps
abbrev fU(n:Nat):Nat→Prop:=fun b=>n≤b
def eP(w:aa)(lo:Nat→Prop)(hi:Nat)(a:Option aj)(D:cO):Prop:=∀j c,D[j]?=some c→∃b off,a=some ⟨b,off,none⟩∧lo b∧b<hi∧w.cell? ⟨b,off+j,none⟩=some (.b c.toNat)
theorem eP.kept{w w':aa}{lo:Nat→Prop}{hi:Nat}{a:Option aj}{D:cO}{S:Nat→Prop}(h:eP w lo hi a D)(hk:cQ S w w')(hw:hi≤w.heap.size)(hn:∀b,lo b→b<hi→(∃off,a=some ⟨b,off,none⟩)→¬S b):eP w' lo hi a D:=fun j c hj=>by
 obtain⟨b,off,h1,h2,h3,h4⟩:=h j c hj;exact⟨b,off,h1,h2,h3,(hk.cell (p:=⟨b,off+j,none⟩) (ag h3 hw) (hn b h2 h3 ⟨off,h1⟩)).trans h4⟩
theorem eP.below{w w':aa}{lo:Nat→Prop}{hi:Nat}{a:Option aj}{D:cO}(h:eP w lo hi a D)(hb:Below hi w w'):eP w' lo hi a D:=fun j c hj=>by
 obtain⟨b,off,h1,h2,h3,h4⟩:=h j c hj;exact⟨b,off,h1,h2,h3,(hb.cell (p:=⟨b,off+j,none⟩) h3).trans h4⟩
theorem eP.mono{w:aa}{lo lo':Nat→Prop}{hi hi':Nat}{a:Option aj}{D:cO}(h:eP w lo hi a D)(h1:∀b,lo b→lo' b)(h2:hi≤hi'):eP w lo' hi' a D:=fun j c hj=>by
 obtain⟨b,off,g1,g2,g3,g4⟩:=h j c hj;exact⟨b,off,g1,h1 b g2,ag g3 h2,g4⟩
def byteCells(D:cO):List aJ:=D.map fun c=>.b c.toNat
def od(n:Nat)(w:aa)(a:Option aj):Prop:=∀ad,a=some ad→n≤ad.block∧ad.block<w.heap.size∧∀j,w.frozen? ⟨ad.block,j,none⟩=false
theorem od.kept{n:Nat}{w w':aa}{a:Option aj}{S:Nat→Prop}(h:od n w a)(hk:cQ S w w')(hn:∀k,n≤k→¬S k):od n w' a:=fun ad e=>by
 obtain⟨h0,h1,h2⟩:=h ad e;exact⟨h0,ag h1 hk.size,fun j=>(hk.frozen (p:=⟨ad.block,j,none⟩) h1 (hn _ h0)).trans (h2 j)⟩
theorem od.mono{n m:Nat}{w:aa}{a:Option aj}(h:od n w a)(hm:m≤n):od m w a:=fun ad e=>by
 obtain⟨h0,h1,h2⟩:=h ad e;exact⟨aH hm h0,h1,h2⟩
theorem od.below{n:Nat}{w w':aa}{a:Option aj}(h:od n w a)(hb:cE w w'):od n w' a:=fun ad e=>by
 obtain⟨h0,h1,h2⟩:=h ad e;exact⟨h0,ag h1 hb.size,fun j=>(hb.frozen (p:=⟨ad.block,j,none⟩) h1).trans (h2 j)⟩
theorem infoByte:(prog.info? 5).map (fun i=>(i.zero,i.size,i.bytes))=some (some (.B),1,1):=by kernel_rfl
theorem info_parts{T:bg}{a:Option aJ}{b c:Nat}(h:(prog.info? T).map (fun i=>(i.zero,i.size,i.bytes))=some (a,b,c)):∃i,prog.info? T=some i∧i.zero=a∧i.size=b∧i.bytes=c:=by
 obtain⟨i,hi,he⟩:=aB.1 h;simp only[Prod.mk.injEq] at he;exact⟨i,hi,he.1,he.2.1,he.2.2⟩
theorem iE{w:aa}{base:Nat}{e:bg}{size:Nat}{v:aJ}{n:Nat}{xs:List aJ}(h:w.ownsRow base e size v n xs):∃a c,v=.slice a n c:=by
 rcases h.2 with ⟨rfl,rfl⟩|⟨g,cap,cur,rfl,_⟩
 ·exact⟨none,0,rfl⟩
 exact⟨_,_,rfl⟩
theorem cT{w W:aa}(h:cE w W)(o:Obj):cE w (W.alloc o):=h.alloc h.size o
theorem wq{w:aa}{base n c:Nat}{a:Option aj}{D:cO}(h:w.ownsRow base 5 1 (.slice a n c) n (byteCells D)):eP w (fU base) w.heap.size a D:=fun j x hj=>by
 have hn:D.length=n:=by have:=h.1;simp[byteCells] at this;omega
 rcases h.2 with ⟨h1,h0⟩|⟨g,cap,cur,h1,yG,hg,_⟩
 ·have:=(List.getElem?_eq_some_iff.1 hj).1
  omega
 ·cases h1
  have hx:(byteCells D)[j]?=some (.b x.toNat):=by simp[byteCells,hj]
  have:=h.cells (g:=g) rfl j _ hx;rw[Addr.add_lit] at this;exact⟨g,0,rfl,yG,(aU.1 hg).1,this⟩
theorem KR(w:aa)(a:Option aj)(n c:Nat):(binOp .eql 32 (.slice a n c) (.n)).run prog w=.ok (.bool a.isNone) w:=Lib.run_eql_slice_nil w _ _ a n c 0 0 underlying32
theorem BD(w:aa):au prog 202 #[.n] w fun e w'=>e=.returned (.n)∧w'=w:=by
 have q:=fun w:aa=>KR w none 0 0
 go_enter func202,ntmps202
 go_wp2
 go_ret
 exact⟨rfl,rfl⟩
theorem BE(w:aa)(ao:Option aj)(c:Nat)(lo:Nat→Prop)(D:cO)(hl:D.length≤1000000)(h:eP w lo w.heap.size ao D)(hn:ao=none→D=[]∧c=0):
  au prog 202 #[.slice ao D.length c] w fun e w'=>∃a' c',e=.returned (.slice a' D.length c')∧eP w' (fU w.heap.size) w'.heap.size a' D∧cE w w'∧(a'=none→D=[]∧c'=0)∧od w.heap.size w' a':=by
 cases ao with
 |none=>
  obtain⟨rfl,rfl⟩:=hn rfl;exact(BD w).mono fun e w' ⟨he,hw⟩=>⟨none,0,he,fun j x hj=>by simp at hj,by rw[hw];exact aA _ _,fun _=>⟨rfl,rfl⟩,fun ad e=>by cases e⟩
 |some ad=>
 have q:=fun w:aa=>KR w (some ad) D.length c
 have hcells:∀j u,(byteCells D)[j]?=some u→(w.alloc (.cells #[] 5)).cell? (ad.add j)=some u:=fun j u hu=>by
  simp only[byteCells,aR,aB] at hu;obtain⟨x,hx,rfl⟩:=hu;obtain⟨b,off,e,_,h3,h4⟩:=h j x hx;cases e;rw[aO];exact((cT (aA _ w) _).cell (p:=⟨b,off+j,none⟩) h3).trans h4
 have zb:=cD hcells;have Np:=cD (aY (base:=w.heap.size) (e:=5) (size:=1) w #[] 0 cK cL rfl);obtain⟨N,hN⟩:=cF D.length;have gQ:(byteCells D).length=N*1:=by rw[hN];simp[byteCells]
 have FM:=cD gQ;have HN:=cD hN;obtain⟨i0,hi,hz0,hz1,hz2⟩:=info_parts infoByte;have HI:=cD (cC hi (cC hz0 (cC hz1 hz2)));rw[←hN] at hl q⊢;clear h hn hcells gQ hN hi hz0 hz1 hz2;go_enter func202,ntmps202
 go_wp2_with (at_builtin;refine eD rfl (.tmp 5) (.tmp 6) 32 rfl w.heap.size 5 i0 (.B) 1 1 underlying32 HI.out.1 HI.out.2.1 HI.out.2.2.1 HI.out.2.2.2 rfl cL _ _ _ rfl Np.out ad N c (byteCells D) rfl FM.out zb.out (by intro u hu;simp[byteCells] at hu;obtain⟨x,_,rfl⟩:=hu;rfl) (by unfold aE;omega) cK cM ?_;intro v3 w3 hown hgrow hwhere)
 have BY:cE w w3:=(cT (aA _ w) _).grown hgrow cM (fun g hg=>(Np.out.lt g hg).1);rw[aG] at hown;obtain⟨a3,c3,rfl⟩:=iE hown;have Uh:=cD hown;have mQ:=cD BY;clear hown hgrow hwhere BY;go_wp2
 go_ret
 refine⟨a3,c3,rfl,wq Uh.out,mQ.out,fun e=>?_,fun ad e=>?_⟩
 ·subst e
  rcases Uh.out.2 with ⟨h1,h0⟩|⟨g,cap,cur,h1,_⟩
  ·simp at h1
   exact⟨aF (by rw[←HN.out];exact h0),h1.2⟩
  simp at h1
 subst e;rcases Uh.out.2 with ⟨h1,h0⟩|⟨g,cap,cur,h1,yG,hg,_⟩
 ·simp at h1
 simp at h1;obtain⟨rfl,_⟩:=h1;exact⟨yG,(aU.1 hg).1,fun j=>by simp[an,hg]⟩
structure dW(w:aa)(lo:Nat→Prop)(a:Option aj)(c:Nat)(D:cO):Prop where
 cS:eP w lo w.heap.size a D
 nil:a=none→D=[]∧c=0
theorem dW.below{w w':aa}{lo:Nat→Prop}{a:Option aj}{c:Nat}{D:cO}(h:dW w lo a c D)(hb:cE w w'):dW w' lo a c D:=
 ⟨(h.cS.below hb).mono (fun _ h=>h) hb.size,h.nil⟩
theorem dW.mono{w:aa}{lo lo':Nat→Prop}{a:Option aj}{c:Nat}{D:cO}(h:dW w lo a c D)(hl:∀b,b<w.heap.size→lo b→lo' b):dW w lo' a c D:=
 ⟨fun j x hj=>(h.cS j x hj).imp fun b ⟨off,h1,h2,h3,h4⟩=>⟨off,h1,hl b h3 h2,h3,h4⟩,h.nil⟩
theorem dW.kept{w w':aa}{lo:Nat→Prop}{a:Option aj}{c:Nat}{D:cO}{S:Nat→Prop}(h:dW w lo a c D)(hk:cQ S w w')(hn:∀b,lo b→b<w.heap.size→¬S b):dW w' lo a c D:=
 ⟨(h.cS.kept hk (ah _) (fun b h1 h2 _=>hn b h1 h2)).mono (fun _ h=>h) hk.size,h.nil⟩
theorem dW.row{w:aa}{base n c:Nat}{a:Option aj}{D:cO}(h:w.ownsRow base 5 1 (.slice a n c) n (byteCells D)):dW w (fU base) a c D∧n=D.length:=by
 have hn:D.length=n:=by have:=h.1;simp[byteCells] at this;omega
 refine⟨⟨wq h,fun e=>?_⟩,hn.symm⟩;subst e;rcases h.2 with ⟨h1,h0⟩|⟨g,cap,cur,h1,_⟩
 ·simp at h1
  exact⟨aF cK,h1.2⟩
 simp at h1
theorem um(w:aa)(ao:Option aj)(c:Nat)(lo:Nat→Prop)(D:cO)(hl:D.length≤1000000000)(h:dW w lo ao c D):
  au prog 202 #[.slice ao D.length c] w fun e w'=>∃v,e=.returned v∧w'.ownsRow w.heap.size 5 1 v D.length (byteCells D)∧cE w w':=by
 obtain⟨h,hn⟩:=h;cases ao with
 |none=>
  obtain⟨rfl,rfl⟩:=hn rfl;exact(BD w).mono fun e w' ⟨he,hw⟩=>⟨_,he,by rw[hw];exact World.ownsRow_nil w _ 5 1,by rw[hw];exact aA _ _⟩
 |some ad=>
 have q:=fun w:aa=>KR w (some ad) D.length c
 have hcells:∀j u,(byteCells D)[j]?=some u→(w.alloc (.cells #[] 5)).cell? (ad.add j)=some u:=fun j u hu=>by
  simp only[byteCells,aR,aB] at hu;obtain⟨x,hx,rfl⟩:=hu;obtain⟨b,off,e,_,h3,h4⟩:=h j x hx;cases e;rw[aO];exact((cT (aA _ w) _).cell (p:=⟨b,off+j,none⟩) h3).trans h4
 have zb:=cD hcells;have Np:=cD (aY (base:=w.heap.size) (e:=5) (size:=1) w #[] 0 cK cL rfl);obtain⟨N,hN⟩:=cF D.length;have gQ:(byteCells D).length=N*1:=by rw[hN];simp[byteCells]
 have FM:=cD gQ;obtain⟨i0,hi,hz0,hz1,hz2⟩:=info_parts infoByte;have HI:=cD (cC hi (cC hz0 (cC hz1 hz2)));rw[←hN] at hl q⊢;clear h hn hcells gQ hN hi hz0 hz1 hz2;go_enter func202,ntmps202
 go_wp2_with (at_builtin;refine eD rfl (.tmp 5) (.tmp 6) 32 rfl w.heap.size 5 i0 (.B) 1 1 underlying32 HI.out.1 HI.out.2.1 HI.out.2.2.1 HI.out.2.2.2 rfl cL _ _ _ rfl Np.out ad N c (byteCells D) rfl FM.out zb.out (by intro u hu;simp[byteCells] at hu;obtain⟨x,_,rfl⟩:=hu;rfl) (by unfold aE;omega) cK cM ?_;intro v3 w3 hown hgrow hwhere)
 have BY:cE w w3:=(cT (aA _ w) _).grown hgrow cM (fun g hg=>(Np.out.lt g hg).1);rw[aG] at hown;have Uh:=cD hown;have mQ:=cD BY;clear hown hgrow hwhere BY;go_wp2
 go_ret
 exact⟨v3,rfl,Uh.out,mQ.out⟩
structure BytesIn(w:aa)(a:Option aj)(n c:Nat)(B:cO):Prop where
 len:n=B.length
 cS:dW w (fun _=>True) a c B
theorem BytesIn.below{w w':aa}{a:Option aj}{n c:Nat}{B:cO}(h:BytesIn w a n c B)(hb:cE w w'):BytesIn w' a n c B:=⟨h.len,h.cS.below hb⟩
structure iJ(w:aa)(D:cO)(a:Option aj)(n c:Nat)(w':aa):Prop where
 len:n=D.length
 cS:dW w' (fU w.heap.size) a c D
 bl:cE w w'
theorem iJ.pH{w:aa}{D:cO}{a:Option aj}{n c:Nat}{w':aa}(h:iJ w D a n c w'):BytesIn w' a n c D:=⟨h.len,h.cS.mono (fun _ _ _=>trivial)⟩
theorem iJ.trans{w w1 w2:aa}{D:cO}{a:Option aj}{n c:Nat}(h:iJ w1 D a n c w2)(hb:cE w w1):iJ w D a n c w2:=⟨h.len,h.cS.mono (fun _ _ h=>aH hb.size h),hb.trans (h.bl.mono hb.size)⟩
theorem iJ.cast{w:aa}{D E:cO}{a:Option aj}{n c:Nat}{w':aa}(h:iJ w D a n c w')(e:D=E):iJ w E a n c w':=e▸h
def fe(w:aa)(D:cO)(e:Ending)(w':aa):Prop:=∃a n c,e=.returned (.slice a n c)∧iJ w D a n c w'
theorem CJ(D E:cO):byteCells (D++E)=byteCells D++byteCells E:=by simp[byteCells]
theorem Y4(v k:Nat):((v:Int) / 2 ^ (8*k) % 256)=((UInt8.ofNat (v / 256 ^ k % 256)).toNat:Int):=by
 have h2:((2:Int) ^ (8*k))=((256 ^ k:Nat):Int):=by
  rw[Int.pow_mul];simp
 rw[h2,←Int.natCast_ediv,UInt8.toNat_ofNat'];omega
theorem zH(w:aa)(xs:List aJ)(t:bg):∀j u,xs[j]?=some u→(w.alloc (.cells xs.toArray t)).cell? ((⟨w.heap.size,0,none⟩:aj).add j)=some u:=fun j u hu=>by
 rw[aO,aG,af _ _ j _ t (0,0) (aM w _)];simpa using hu
theorem p9(w:aa)(ao:Option aj)(c:Nat)(lo:Nat→Prop)(B:cO)(hB:dW w lo ao c B)(hl:B.length≤900000000)(v n:Nat)(hv:v<18446744073709551616)(h1:1≤n)(h8:n≤8):
  au prog 224 #[.slice ao B.length c,.v v,.i n] w (fun e w'=>∃u,e=.returned u∧w'.ownsRow w.heap.size 5 1 u (B.length+n) (byteCells (B++dw n v))∧cE w w'):=by
 have HC:=cD (um w ao c lo B cK hB);obtain⟨N,hN⟩:=cF B.length;rw[←hN] at HC hl⊢;clear hB hN;obtain⟨i0,wS,hz0,hz1,hz2⟩:=info_parts infoByte;have HI:=cD (cC wS (cC hz0 (cC hz1 hz2)));clear wS hz0 hz1 hz2;obtain⟨m,rfl⟩:∃m,n=m+1:=⟨n - 1,by omega⟩;have zx:((m+1:Nat):Int)=(m:Int)+1:=by omega
 rw[zx];clear h1 zx;go_enter func224,ntmps224
 go_wp2_with fail
 refine HC.out.mono ?_;rintro e w1 ⟨v1,rfl,kX,B1⟩;have Xo:=cD (cC kX B1);clear kX B1;go_wp2
 go_loopw [7,8] (fun uv kv wr=>∃j:Nat,j≤m+1∧kv=.i ((m:Int) - j)∧Hid (wr.ownsRow w.heap.size 5 1 uv (N+j) (byteCells (B++(dw (m+1) v).take j))∧cE w wr)) (fun _ kv _=>(intOf kv+1).toNat)
 case atStart=>exact⟨0,by omega,by simp,cD ⟨by simpa using Xo.out.1,Xo.out.2⟩⟩
 obtain⟨j,hj,rfl,HS⟩:=hrel;by_cases hlt:j<m+1
 ·obtain⟨k,hk⟩:∃k:Nat,(m:Int) - j=k:=⟨m - j,by omega⟩
  have HK:=cD hk;rw[hk];have hk7:k≤7:=by omega
  clear hk;have hsz:w.heap.size≤wr.heap.size:=HS.out.2.size;go_wp2_with (at_builtin;refine eD rfl (.tmp 17) (.tmp 23) 32 rfl w.heap.size 5 i0 (.B) 1 1 underlying32 HI.out.1 HI.out.2.1 HI.out.2.2.1 HI.out.2.2.2 rfl cL _ (N+j) _ rfl (HS.out.1.alloc _) ⟨wr.heap.size,0,none⟩ 1 1 [.b ((v:Int) / 2 ^ (8*k) % 256)] rfl rfl (zH wr _ _) (by intro u hu;simp at hu;subst hu;rfl) (by unfold aE;omega) cK (by simp;omega) ?_;intro v5 w5 hown5 hgrow5 hwh5)
  have hB5:cE w w5:=(HS.out.2.alloc HS.out.2.size _).grown hgrow5 (by simp;omega) (fun g hg=>(HS.out.1.lt g hg).1);have hrow:byteCells (B++(dw (m+1) v).take j)++[.b ((v:Int) / 2 ^ (8*k) % 256)]=byteCells (B++(dw (m+1) v).take (j+1)):=by
   have:=HK.out;rw[aQ,GJ (m+1) v j k cK,Y4,←aS];simp[byteCells]
  rw[hrow] at hown5;have QD:=cD (cC hown5 hB5);clear hown5 hgrow5 hwh5 hB5 hrow hsz;go_wp2
  go_roundw
  case rel=>
   have:=HK.out;exact⟨j+1,by omega,by congr 1;omega,cD QD.out⟩
  have:=HK.out;simp[intOf]
 obtain rfl:j=m+1:=by omega
 have Cb:=cD HS.out;obtain⟨kv,hkv⟩:∃kv:Int,kv=(m:Int) - ((m+1:Nat):Int):=⟨_,rfl⟩;have tk:decide ((0:Int)≤kv)=false:=by simp;omega
 rw[←hkv];clear hkv hlt hj;go_wp2
 go_ret
 have h:=Cb.out.1;rw[aN (by rw[dD];exact ah _)] at h;exact⟨_,rfl,h,Cb.out.2⟩
theorem fe.of{w:aa}{D:cO}{u:aJ}{n:Nat}{w':aa}(h1:w'.ownsRow w.heap.size 5 1 u n (byteCells D))(h2:cE w w'):fe w D (.returned u) w':=by
 obtain⟨a,c,rfl⟩:=iE h1;obtain⟨h3,h4⟩:=dW.row h1;exact⟨a,n,c,rfl,h4,h3,h2⟩
theorem nN(w:aa){ao:Option aj}{nb c:Nat}{B:cO}(hB:BytesIn w ao nb c B)(hl:B.length≤900000000)(v:Nat)(hv:v<256):
  au prog 144 #[.slice ao nb c,.b v] w (fe w (B++dw 1 v)):=by
 have HN:=cD (p9 w ao c _ B hB.cS hl v 1 cK cK cK);rw[←hB.len] at HN;clear hB;go_enter func144,ntmps144
 go_wp2_with fail
 refine HN.out.mono ?_;rintro e w' ⟨u,rfl,h1,h2⟩;have H:=cD (fe.of h1 h2);clear h1 h2;go_wp2
 go_ret
 exact H.out
theorem iW(w:aa){ao:Option aj}{nb c:Nat}{B:cO}(hB:BytesIn w ao nb c B)(hl:B.length≤900000000)(v:Nat)(hv:v<18446744073709551616):
  au prog 124 #[.slice ao nb c,.v v] w (fe w (B++dw 8 v)):=by
 have HN:=cD (p9 w ao c _ B hB.cS hl v 8 hv cK cK);rw[←hB.len] at HN;clear hB hv;go_enter func124,ntmps124
 go_wp2_with fail
 refine HN.out.mono ?_;rintro e w' ⟨u,rfl,h1,h2⟩;have H:=cD (fe.of h1 h2);clear h1 h2;go_wp2
 go_ret
 exact H.out
def lu(v:Int):Nat:=(v % 18446744073709551616).toNat
theorem zM(v:Int):lu v<18446744073709551616:=by unfold lu;omega
theorem O0(v:Int):IntKind.u64.wrap v=(lu v:Int):=by unfold lu;rw[IntKind.wrap_u64];omega
theorem vK(w:aa){ao:Option aj}{nb c:Nat}{B:cO}(hB:BytesIn w ao nb c B)(hl:B.length≤900000000)(v:Int):
  au prog 149 #[.slice ao nb c,.i v] w (fe w (B++dw 8 (lu v))):=by
 have HN:=cD (p9 w ao c _ B hB.cS hl (lu v) 8 (zM v) cK cK);rw[←hB.len] at HN;have tk:∀_:True,IntKind.u64.wrap v=(lu v:Int):=fun _=>O0 v
 clear hB;go_enter func149,ntmps149
 go_wp2_with fail
 refine HN.out.mono ?_;rintro e w' ⟨u,rfl,h1,h2⟩;have H:=cD (fe.of h1 h2);clear h1 h2;go_wp2
 go_ret
 exact H.out
theorem oV(w:aa){ao:Option aj}{nb c:Nat}{B:cO}(hB:BytesIn w ao nb c B)(hl:B.length≤900000000){so:Option aj}{sn sc:Nat}{D:cO}(hD:BytesIn w so sn sc D)(hd:D.length≤900000000):
  au prog 226 #[.slice ao nb c,.slice so sn sc] w (fe w (B++dw 4 D.length++D)):=by
 have HN:=cD (p9 w ao c _ B hB.cS hl D.length 4 cK cK cK);rw[←hB.len] at HN;have HD:=cD hD.cS;obtain⟨K,hK⟩:=cF sn;have HK:Hid (K=D.length):=cD (by rw[hK];exact hD.len);have Fa:K=D.length:=HK.out;rw[←Fa] at HN hd;rw[←Fa];rw[←hK];rw[←hB.len] at hl;clear hB hD hK Fa;obtain⟨i0,wS,hz0,hz1,hz2⟩:=info_parts infoByte;have HI:=cD (cC wS (cC hz0 (cC hz1 hz2)));clear wS hz0 hz1 hz2;cases so with
 |none=>
  obtain⟨e1,e2⟩:=HD.out.nil rfl;subst e1 e2;have hk0:K=0:=HK.out;subst hk0;go_enter func226,ntmps226
  go_wp2_with fail
  refine HN.out.mono ?_;rintro e w' ⟨u,rfl,h1,h2⟩;have H1:=cD (cC h1 h2);clear h1 h2;go_wp2_with (at_builtin;refine wpList_append_own_none rfl (.tmp 9) (.tmp 10) 32 rfl w.heap.size 5 i0 1 underlying32 HI.out.1 _ _ _ rfl H1.out.1 rfl ?_)
  go_ret
  rw[List.append_nil];exact fe.of H1.out.1 H1.out.2
 |some ad=>
 have hcells:∀w',cE w w'→∀j u,(byteCells D)[j]?=some u→w'.cell? (ad.add j)=some u:=fun w' hb j u hu=>by
  simp only[byteCells,aR,aB] at hu;obtain⟨x,hx,rfl⟩:=hu;obtain⟨b,off,e,_,h3,h4⟩:=HD.out.cS j x hx;cases e;rw[aO];exact(hb.cell (p:=⟨b,off+j,none⟩) h3).trans h4
 have HC:=cD hcells;have gQ:(byteCells D).length=K*1:=by rw[HK.out];simp[byteCells]
 have FM:=cD gQ;clear hcells gQ;go_enter func226,ntmps226
 go_wp2_with fail
 refine HN.out.mono ?_;rintro e w1 ⟨u,rfl,h1,h2⟩;have hsz:w.heap.size≤w1.heap.size:=h2.size;have H1:=cD (cC h1 h2);clear h1 h2;go_wp2_with (at_builtin;refine eD rfl (.tmp 9) (.tmp 10) 32 rfl w.heap.size 5 i0 (.B) 1 1 underlying32 HI.out.1 HI.out.2.1 HI.out.2.2.1 HI.out.2.2.2 rfl cL _ _ _ rfl H1.out.1 ad K sc (byteCells D) rfl FM.out (HC.out w1 H1.out.2) (by intro u hu;simp[byteCells] at hu;obtain⟨x,_,rfl⟩:=hu;rfl) (by unfold aE;omega) cK hsz ?_;intro v3 w3 hown hgrow hwhere)
 have BY:cE w w3:=H1.out.2.grown hgrow hsz (fun g hg=>(H1.out.1.lt g hg).1);rw[←CJ] at hown;have Uh:=cD (fe.of hown BY);clear hown hgrow hwhere BY;go_wp2
 go_ret
 exact Uh.out
structure Rd where
 b:cO
 bad:Bool
def Rd.take(r:Rd)(n:Nat):Rd:=if r.bad=true then r else if r.b.length<n then ⟨r.b,true⟩ else ⟨r.b.drop n,false⟩
def Rd.got(r:Rd)(n:Nat):cO:=if r.bad=true then [] else if r.b.length<n then [] else r.b.take n
structure eZ(w:aa)(rb:Nat)(r:Rd):Prop where
 ex:∃a c,w.heap[rb]?=some (.cells #[.slice a r.b.length c,.bool r.bad] 304 (0,0))∧dW w (fun b=>b<rb) a c r.b∧r.b.length≤c∧c≤aE
theorem eZ.lt{w:aa}{rb:Nat}{r:Rd}(h:eZ w rb r):rb<w.heap.size:=by
 obtain⟨a,c,h,_⟩:=h.ex;exact aP h
theorem eZ.below{w w':aa}{rb:Nat}{r:Rd}(h:eZ w rb r)(hb:cE w w'):eZ w' rb r:=by
 obtain⟨a,c,h1,h2,h3,h4⟩:=h.ex;exact⟨a,c,(hb.block rb (aP h1)).trans h1,h2.below hb,h3,h4⟩
theorem eZ.kept{w w':aa}{rb:Nat}{r:Rd}{S:Nat→Prop}(h:eZ w rb r)(hk:cQ S w w')(hS:∀b,b≤rb→¬S b):eZ w' rb r:=by
 obtain⟨a,c,h1,h2,h3,h4⟩:=h.ex;exact⟨a,c,(hk.block rb (aP h1) (hS _ (ah _))).trans h1,h2.kept hk (fun b hb _=>hS b (Nat.le_of_lt hb)),h3,h4⟩
theorem Zx(V X:Nat)(hV:V<72057594037927936)(hX:X<256):bits BinOp.or IntKind.u64 ((V:Int)*256) (X:Int)=((V*256+X:Nat):Int):=by
 have h:(V:Int)*256=((V*256:Nat):Int):=by omega
 rw[h,bits_or_u64_nat _ _ cK cK,Nat.mul_comm V 256];have:=Nat.two_pow_add_eq_or_of_lt (i:=8) (b:=X) cK V;rw[show(2 ^ 8:Nat)=256 from rfl] at this;rw[this]
theorem CT(w:aa)(ao:Option aj)(c:Nat)(lo:Nat→Prop)(D:cO)(hD:dW w lo ao c D)(hl:D.length≤8):
  au prog 239 #[.slice ao D.length c] w fun e w'=>e=.returned (.v (mo D))∧w=w':=by
 have HD:=cD hD.cS;obtain⟨N,hN⟩:=cF D.length;have HN:=cD hN;rw[←hN] at hl⊢;clear hD hN;go_enter func239,ntmps239
 go_wp2
 go_loopw [3,8] (fun vv kv wr=>∃k:Nat,k≤N∧vv=.v (mo (D.take k))∧kv=.i k∧wr=w) (fun _ kv _=>N - (intOf kv).toNat)
 case atStart=>exact⟨0,by omega,by simp[mo],rfl,rfl⟩
 obtain⟨k,hk,rfl,rfl,rfl⟩:=hrel;by_cases hlt:k<N
 ·obtain⟨x,hx⟩:∃x,D[k]?=some x:=⟨_,aV (by rw[←HN.out];exact hlt)⟩
  obtain⟨b,off,hao,_,_,hc⟩:=HD.out k x hx;subst hao;obtain⟨V,hV⟩:=cF (mo (D.take k));obtain⟨X,hX⟩:=cF x.toNat;have hvl:V<72057594037927936:=by
   rw[hV];refine ag (El _) ?_;rw[ay,show(72057594037927936:Nat)=256 ^ 7 from rfl];exact aZ cL cK
  have hxl:X<256:=by rw[hX];exact x.toNat_lt
  have HV:=cD (cC hV (cC hX hx));rw[←hX] at hc;rw[←hV];clear hV hX hx;go_wp2_with fail
  obtain⟨h1,h2,h3⟩:=HV.out;refine⟨⟨k+1,by omega,?_,by congr 1,trivial⟩,by simp[intOf];omega⟩;rw[Zx V X hvl hxl,aQ,h3,h2,h1];show _=Value.int .u64 ((mo (D.take k++[x]):Nat):Int);rw[Nx]
 obtain rfl:N=k:=by omega
 have HE:Hid (D.take N=D):=cD (aN (by rw[←HN.out];exact ah _));rw[HE.out];clear hlt hk;have t1:decide ((N:Int)<(N:Int))=false:=by simp
 have t2:decide (N<N)=false:=by simp
 go_wp2
 go_ret
 exact⟨rfl,rfl⟩
theorem Oy(w:aa)(ao:Option aj)(c:Nat)(lo:Nat→Prop)(D:cO)(hD:dW w lo ao c D)(hl:D.length≤1000000000):
  au prog 162 #[.slice ao D.length c] w fun e w'=>∃rb,e=.returned (.p rb)∧w.heap.size≤rb∧eZ w' rb ⟨D,false⟩∧cE w w':=by
 have HC:=cD (um w ao c lo D hl hD);obtain⟨N,hN⟩:=cF D.length;rw[←hN] at HC hl⊢;have HN:=cD hN;clear hD hN;go_enter func162,ntmps162
 go_wp2_with fail
 refine HC.out.mono ?_;rintro e w1 ⟨v1,rfl,kX,B1⟩;obtain⟨a1,c1,rfl⟩:=iE kX;have Xo:=cD (cC kX B1);clear kX B1;go_wp2
 go_ret
 obtain⟨h1,h2⟩:=Xo.out;obtain⟨h3,_⟩:=dW.row h1;have hb:=cT (aA _ w1) (.cells #[.slice a1 N c1,.F] 304);have hcap:N≤c1∧c1≤aE:=by
  rcases h1.2 with ⟨e1,e2⟩|⟨g,cap,cur,e1,hg,DF,hnc,hcm,_⟩
  ·cases e1
   exact⟨by omega,by unfold aE;omega⟩
  cases e1;exact⟨hnc,hcm⟩
 refine⟨w1.heap.size,rfl,h2.size,⟨a1,c1,?_,?_,?_,hcap.2⟩,h2.trans (hb.mono h2.size)⟩
 ·show _=some (Obj.cells #[.slice a1 D.length c1,.F] _ _)
  rw[←HN.out];exact aM w1 _
 ·exact(h3.mono (fun b hb _=>hb)).below hb
 show D.length≤c1;rw[←HN.out];exact hcap.1
theorem dW.take{w:aa}{lo:Nat→Prop}{ad:aj}{c:Nat}{S:cO}(h:dW w lo (some ad) c S)(_:aj)(n c':Nat):dW w lo (some ad) c' (S.take n):=
 ⟨fun j x hj=>h.cS j x (by rw[List.getElem?_take] at hj;split at hj;exact hj;cases hj),fun e=>by cases e⟩
theorem dW.drop{w:aa}{lo:Nat→Prop}{ad:aj}{c:Nat}{S:cO}(h:dW w lo (some ad) c S)(_:aj)(n c':Nat):dW w lo (some (ad.add n)) c' (S.drop n):=
 ⟨fun j x hj=>by
  rw[List.getElem?_drop] at hj;obtain⟨b,off,e,h2,h3,h4⟩:=h.cS (n+j) x hj;cases e;exact⟨b,off+n,by rw[aO],h2,h3,by rw[Nat.add_assoc];exact h4⟩,fun e=>by cases e⟩
theorem dA{S:Nat→Prop}{a b:aa}(h:cE a b):cQ S a b:=⟨h.os,h.tape,h.output,h.size,fun k hk _=>h.block k hk⟩
theorem rM{w:aa}{rb:Nat}{x y v:aJ}{t:bg}(h:w.heap[rb]?=some (.cells #[x,y] t (0,0))):(w.setCell ⟨rb,0,none⟩ v).heap[rb]?=some (.cells #[v,y] t (0,0)):=by
 simp[aK,aq,h]
theorem CX(w:aa)(ao:Option aj)(c:Nat)(lo:Nat→Prop)(D:cO)(hD:dW w lo ao c D)(hl:D.length≤1000000000):
  au prog 313 #[.slice ao D.length c] w (fe w D):=by
 have HC:=cD (um w ao c lo D hl hD);clear hD;go_enter func313,ntmps313
 go_wp2_with fail
 refine HC.out.mono ?_;rintro e w1 ⟨v1,rfl,kX,B1⟩;have H1:=cD (fe.of kX B1);clear kX B1;go_wp2
 go_ret
 exact H1.out
theorem wZ(w:aa)(rb:Nat)(r:Rd)(hr:eZ w rb r)(n:Nat)(hn:n≤8):
  au prog 238 #[.p rb,.v n,.func (.func 239) #[] #[]] w fun e w'=>e=.returned (.v (mo (r.got n)))∧eZ w' rb (r.take n)∧cQ (·=rb) w w':=by
 obtain⟨S,bad⟩:=r;obtain⟨a,c,hb,hD,hc,hm⟩:=hr.ex;dsimp only at hb hD hc;have hc0:w.cell? ⟨rb,0,none⟩=some (.slice a S.length c):=af _ _ 0 _ _ _ hb;have hc1:w.cell? ⟨rb,1,none⟩=some (.bool bad):=af _ _ 1 _ _ _ hb;have Ya:w.frozen? ⟨rb,0,none⟩=false:=by simp[an,hb]
 have AY:w.frozen? ⟨rb,1,none⟩=false:=by simp[an,hb]
 have HR:=cD hr;have HB:=cD (cC hb hD);obtain⟨N,hN⟩:=cF S.length;have HN:=cD hN;rw[←hN] at hc hc0
 skip
 clear hr hb hD hN;unfold aE at hm;cases bad with
 |true=>
  clear Ya AY hc0;go_enter func238,ntmps238
  go_wp2
  go_ret
  exact⟨rfl,HR.out,cQ.refl _ _⟩
 |false=>
 by_cases hlt:N<n
 ·have tl:decide (((N:Nat):Int)<((n:Nat):Int))=true:=by simp;omega
  have tl2:decide (N<n)=true:=by simp;omega
  have HL:=cD hlt;clear Ya hlt;go_enter func238,ntmps238
  go_wp2
  go_ret
  have K:cQ (·=rb) w (w.setCell ⟨rb,1,none⟩ (.T)):=cQ.setCell (S:=(·=rb)) (p:=⟨rb,1,none⟩) (cQ.refl _ w) rfl _;have dI:(w.setCell ⟨rb,1,none⟩ (.T)).heap[rb]?=some (.cells #[.slice a S.length c,.T] 304 (0,0)):=by simp[aK,aq,HB.out.1]
  have HT:Hid ((⟨S,false⟩:Rd).take n=⟨S,true⟩∧(⟨S,false⟩:Rd).got n=[]):=cD (by unfold Rd.take Rd.got;have:=HL.out;rw[HN.out] at this;simp[this]);obtain⟨_,hc2⟩:True∧S.length≤c:=⟨trivial,by rw[←HN.out];exact hc⟩;rw[HT.out.1,HT.out.2];exact⟨rfl,⟨a,c,dI,HB.out.2.kept K (fun b h _ e=>aC h e),hc2,by unfold aE;omega⟩,K⟩
 have hle:n≤N:=by omega
 have tl:decide (((N:Nat):Int)<((n:Nat):Int))=false:=by simp;omega
 have tl2:decide (N<n)=false:=by simp;omega
 clear hlt AY;cases a with
 |none=>
  obtain⟨e1,e2⟩:=HB.out.2.nil rfl;have e3:=HN.out;rw[e1] at e3;subst e1 e2;have e3:N=0:=e3;subst e3;obtain rfl:0=n:=by omega
  clear tl tl2 hn hc hle hm e3;have dI:=rM (v:=.n) HB.out.1;have K2:cQ (·=rb) w (w.setCell ⟨rb,0,none⟩ (.n)):=cQ.setCell (S:=(·=rb)) (p:=⟨rb,0,none⟩) (cQ.refl _ w) rfl _;have R2:eZ (w.setCell ⟨rb,0,none⟩ (.n)) rb ⟨[],false⟩:=⟨none,0,dI,⟨fun j x hj=>by simp at hj,fun _=>⟨rfl,rfl⟩⟩,aL _,aL _⟩;have HV:=cD (CT (w.setCell ⟨rb,0,none⟩ (.n)) none 0 (fun _=>True) [] ⟨fun j x hj=>by simp at hj,fun _=>⟨rfl,rfl⟩⟩ cL);have H2:=cD (cC R2 K2);clear dI K2 R2;go_enter func238,ntmps238
  go_wp2_with fail
  refine HV.out.mono ?_;rintro e w9 ⟨rfl,rfl⟩;go_wp2
  go_ret
  exact⟨rfl,H2.out.1,H2.out.2⟩
 |some ad=>
 have Ue:=cD fun(W:aa) (K:cQ (·=rb) w W)=>CT W (some ad) n (fun b=>b<rb) (S.take n) ((HB.out.2.kept K (fun b h _ e=>aC h e)).take ad n n) (by rw[ay,←HN.out];omega)
 have Pe:(S.take n).length=n:=by rw[ay,←HN.out];omega
 rw[Pe] at Ue;have HT:Hid ((⟨S,false⟩:Rd).take n=⟨S.drop n,false⟩∧(⟨S,false⟩:Rd).got n=S.take n∧(S.take n).length=n):=cD ⟨by unfold Rd.take;rw[if_neg cM,if_neg (by show¬S.length<n;rw[←HN.out];omega)],by unfold Rd.got;rw[if_neg cM,if_neg (by show¬S.length<n;rw[←HN.out];omega)],Pe⟩;clear Pe;by_cases hcap:n<c
 ·have dI:=rM (v:=.slice (some (ad.add n)) (N - n) (c - n)) HB.out.1
  have K2:cQ (·=rb) w (w.setCell ⟨rb,0,none⟩ (.slice (some (ad.add n)) (N - n) (c - n))):=cQ.setCell (S:=(·=rb)) (p:=⟨rb,0,none⟩) (cQ.refl _ w) rfl _;have R2:eZ (w.setCell ⟨rb,0,none⟩ (.slice (some (ad.add n)) (N - n) (c - n))) rb ⟨S.drop n,false⟩:=⟨some (ad.add n),c - n,by rw[aD,←HN.out];exact dI,(HB.out.2.kept K2 (fun b h _ e=>aC h e)).drop ad n (c - n),by show(S.drop n).length≤c - n;rw[aD,←HN.out];omega,by unfold aE;omega⟩;have H2:=cD (cC R2 K2);clear dI K2 R2;go_enter func238,ntmps238
  go_wp2_with fail
  refine(Ue.out _ H2.out.2).mono ?_;rintro e w9 ⟨rfl,rfl⟩;go_wp2
  go_ret
  rw[HT.out.1,HT.out.2.1];exact⟨rfl,H2.out⟩
 obtain rfl:c=n:=by omega
 have hcN:c=N:=by omega
 have UY:=cD hcN;clear hcN;have dI:=rM (v:=.slice (some ad) 0 0) HB.out.1;have K2:cQ (·=rb) w (w.setCell ⟨rb,0,none⟩ (.slice (some ad) 0 0)):=cQ.setCell (S:=(·=rb)) (p:=⟨rb,0,none⟩) (cQ.refl _ w) rfl _;have hnil:S.drop c=[]:=aW (by rw[←HN.out,←UY.out];exact ah _);have R2:eZ (w.setCell ⟨rb,0,none⟩ (.slice (some ad) 0 0)) rb ⟨S.drop c,false⟩:=⟨some ad,0,by rw[hnil];exact dI,⟨fun j x hj=>by rw[hnil] at hj;simp at hj,fun e=>by cases e⟩,by rw[hnil];exact ah _,aL _⟩;have H2:=cD (cC R2 K2);clear dI K2 R2 hnil;go_enter func238,ntmps238
 go_wp2_with fail
 refine(Ue.out _ H2.out.2).mono ?_;rintro e w9 ⟨rfl,rfl⟩;go_wp2
 go_ret
 rw[HT.out.1,HT.out.2.1];exact⟨rfl,H2.out⟩
theorem NH(w:aa)(rb:Nat)(r:Rd)(hr:eZ w rb r)(n:Nat)(hn:r.b.length≤1000000000):
  au prog 312 #[.p rb,.v n,.func (.func 313) #[] #[]] w fun e w'=>∃a c,e=.returned (.slice a (r.got n).length c)∧dW w' (fU w.heap.size) a c (r.got n)∧eZ w' rb (r.take n)∧cQ (·=rb) w w':=by
 obtain⟨S,bad⟩:=r;obtain⟨a,c,hb,hD,hc,hm⟩:=hr.ex;dsimp only at hb hD hc;have hc0:w.cell? ⟨rb,0,none⟩=some (.slice a S.length c):=af _ _ 0 _ _ _ hb;have hc1:w.cell? ⟨rb,1,none⟩=some (.bool bad):=af _ _ 1 _ _ _ hb;have Ya:w.frozen? ⟨rb,0,none⟩=false:=by simp[an,hb]
 have AY:w.frozen? ⟨rb,1,none⟩=false:=by simp[an,hb]
 have HR:=cD hr;have HB:=cD (cC hb hD);obtain⟨N,hN⟩:=cF S.length;have HN:=cD hN;dsimp only at hn;rw[←hN] at hc hc0;rw[←hN] at hn;clear hr hb hD hN;unfold aE at hm;cases bad with
 |true=>
  clear Ya AY hc0;go_enter func312,ntmps312
  go_wp2
  go_ret
  exact⟨none,0,rfl,⟨fun j x hj=>by simp[Rd.got] at hj,fun _=>⟨rfl,rfl⟩⟩,HR.out,cQ.refl _ _⟩
 |false=>
 by_cases hlt:N<n
 ·have tl:decide (((N:Nat):Int)<((n:Nat):Int))=true:=by simp;omega
  have tl2:decide (N<n)=true:=by simp;omega
  have HL:=cD hlt;clear Ya hlt;go_enter func312,ntmps312
  go_wp2
  go_ret
  have K:cQ (·=rb) w (w.setCell ⟨rb,1,none⟩ (.T)):=cQ.setCell (S:=(·=rb)) (p:=⟨rb,1,none⟩) (cQ.refl _ w) rfl _;have dI:(w.setCell ⟨rb,1,none⟩ (.T)).heap[rb]?=some (.cells #[.slice a S.length c,.T] 304 (0,0)):=by simp[aK,aq,HB.out.1]
  have HT:Hid ((⟨S,false⟩:Rd).take n=⟨S,true⟩∧(⟨S,false⟩:Rd).got n=[]):=cD (by unfold Rd.take Rd.got;have:=HL.out;rw[HN.out] at this;simp[this]);obtain⟨_,hc2⟩:True∧S.length≤c:=⟨trivial,by rw[←HN.out];exact hc⟩;rw[HT.out.1,HT.out.2];exact⟨none,0,rfl,⟨fun j x hj=>by simp at hj,fun _=>⟨rfl,rfl⟩⟩,⟨a,c,dI,HB.out.2.kept K (fun b h _ e=>aC h e),hc2,by unfold aE;omega⟩,K⟩
 have hle:n≤N:=by omega
 have tl:decide (((N:Nat):Int)<((n:Nat):Int))=false:=by simp;omega
 have tl2:decide (N<n)=false:=by simp;omega
 clear hlt AY;cases a with
 |none=>
  obtain⟨e1,e2⟩:=HB.out.2.nil rfl;have e3:=HN.out;rw[e1] at e3;subst e1 e2;have e3:N=0:=e3;subst e3;obtain rfl:0=n:=by omega
  clear tl tl2 hn hc hle hm e3;have dI:=rM (v:=.n) HB.out.1;have K2:cQ (·=rb) w (w.setCell ⟨rb,0,none⟩ (.n)):=cQ.setCell (S:=(·=rb)) (p:=⟨rb,0,none⟩) (cQ.refl _ w) rfl _;have R2:eZ (w.setCell ⟨rb,0,none⟩ (.n)) rb ⟨[],false⟩:=⟨none,0,dI,⟨fun j x hj=>by simp at hj,fun _=>⟨rfl,rfl⟩⟩,aL _,aL _⟩;have HV:=cD (CX (w.setCell ⟨rb,0,none⟩ (.n)) none 0 (fun _=>True) [] ⟨fun j x hj=>by simp at hj,fun _=>⟨rfl,rfl⟩⟩ cL);have H2:=cD (cC R2 K2);clear dI K2 R2;go_enter func312,ntmps312
  go_wp2_with fail
  refine HV.out.mono ?_;rintro e w9 ⟨a9,n9,c9,rfl,P9⟩;have H9:=cD P9;clear P9;go_wp2
  go_ret
  exact⟨a9,c9,by rw[H9.out.len];rfl,H9.out.cS.mono (fun b _ h=>aH H2.out.2.size h),H2.out.1.below H9.out.bl,H2.out.2.trans (dA H9.out.bl)⟩
 |some ad=>
 have Ue:=cD fun(W:aa) (K:cQ (·=rb) w W)=>CX W (some ad) n (fun b=>b<rb) (S.take n) ((HB.out.2.kept K (fun b h _ e=>aC h e)).take ad n n) (by rw[ay,←HN.out];omega)
 have Pe:(S.take n).length=n:=by rw[ay,←HN.out];omega
 rw[Pe] at Ue;have HT:Hid ((⟨S,false⟩:Rd).take n=⟨S.drop n,false⟩∧(⟨S,false⟩:Rd).got n=S.take n∧(S.take n).length=n):=cD ⟨by unfold Rd.take;rw[if_neg cM,if_neg (by show¬S.length<n;rw[←HN.out];omega)],by unfold Rd.got;rw[if_neg cM,if_neg (by show¬S.length<n;rw[←HN.out];omega)],Pe⟩;clear Pe;by_cases hcap:n<c
 ·have dI:=rM (v:=.slice (some (ad.add n)) (N - n) (c - n)) HB.out.1
  have K2:cQ (·=rb) w (w.setCell ⟨rb,0,none⟩ (.slice (some (ad.add n)) (N - n) (c - n))):=cQ.setCell (S:=(·=rb)) (p:=⟨rb,0,none⟩) (cQ.refl _ w) rfl _;have R2:eZ (w.setCell ⟨rb,0,none⟩ (.slice (some (ad.add n)) (N - n) (c - n))) rb ⟨S.drop n,false⟩:=⟨some (ad.add n),c - n,by rw[aD,←HN.out];exact dI,(HB.out.2.kept K2 (fun b h _ e=>aC h e)).drop ad n (c - n),by show(S.drop n).length≤c - n;rw[aD,←HN.out];omega,by unfold aE;omega⟩;have H2:=cD (cC R2 K2);clear dI K2 R2;go_enter func312,ntmps312
  go_wp2_with fail
  refine(Ue.out _ H2.out.2).mono ?_;rintro e w9 ⟨a9,n9,c9,rfl,P9⟩;have H9:=cD P9;clear P9;go_wp2
  go_ret
  rw[HT.out.1,HT.out.2.1];refine⟨a9,c9,by rw[←H9.out.len];rfl,H9.out.cS.mono (fun b _ h=>aH H2.out.2.size h),H2.out.1.below H9.out.bl,H2.out.2.trans (dA H9.out.bl)⟩
 obtain rfl:c=n:=by omega
 have hcN:c=N:=by omega
 have UY:=cD hcN;clear hcN;have dI:=rM (v:=.slice (some ad) 0 0) HB.out.1;have K2:cQ (·=rb) w (w.setCell ⟨rb,0,none⟩ (.slice (some ad) 0 0)):=cQ.setCell (S:=(·=rb)) (p:=⟨rb,0,none⟩) (cQ.refl _ w) rfl _;have hnil:S.drop c=[]:=aW (by rw[←HN.out,←UY.out];exact ah _);have R2:eZ (w.setCell ⟨rb,0,none⟩ (.slice (some ad) 0 0)) rb ⟨S.drop c,false⟩:=⟨some ad,0,by rw[hnil];exact dI,⟨fun j x hj=>by rw[hnil] at hj;simp at hj,fun e=>by cases e⟩,by rw[hnil];exact ah _,aL _⟩;have H2:=cD (cC R2 K2);clear dI K2 R2 hnil;go_enter func312,ntmps312
 go_wp2_with fail
 refine(Ue.out _ H2.out.2).mono ?_;rintro e w9 ⟨a9,n9,c9,rfl,P9⟩;have H9:=cD P9;clear P9;go_wp2
 go_ret
 rw[HT.out.1,HT.out.2.1];refine⟨a9,c9,by rw[←H9.out.len];rfl,H9.out.cS.mono (fun b _ h=>aH H2.out.2.size h),H2.out.1.below H9.out.bl,H2.out.2.trans (dA H9.out.bl)⟩
def Rd.CZ(r:Rd):Rd:=⟨r.b,true⟩
def Rd.num(r:Rd)(n:Nat):Nat:=mo (r.got n)
theorem Rd.WG(r:Rd)(n:Nat):(r.got n).length≤n:=by
 unfold Rd.got;split
 ·simp
 split
 ·simp
 rw[ay];omega
theorem Rd.RD(r:Rd)(n:Nat):r.num n<256 ^ n:=ag (El _) (aZ cL (r.WG n))
theorem Rd.RE(r:Rd):r.num 1<256:=r.RD 1
theorem Rd.On(r:Rd):r.num 8<18446744073709551616:=r.RD 8
def Br(r:Rd):Int:=if r.bad=true∨r.b≠[] then 2 else 0
def yV(w:aa)(rb:Nat)(v:aJ)(r:Rd)(e:Ending)(w':aa):Prop:=e=.returned v∧eZ w' rb r∧cQ (·=rb) w w'
def BM(w:aa)(rb:Nat)(D:cO)(r:Rd)(e:Ending)(w':aa):Prop:=∃a c,e=.returned (.slice a D.length c)∧dW w' (fU w.heap.size) a c D∧eZ w' rb r∧cQ (·=rb) w w'
section
variable(w:World)(rb:Nat)(r:Rd)(hr:eZ w rb r)
include hr
theorem EC:au prog 163 #[.p rb] w (yV w rb (.b (r.num 1)) (r.take 1)):=by
 have HT:=cD (wZ w rb r hr 1 cL);obtain⟨v,hv⟩:=cF (r.num 1);have hlt:=r.RE;rw[show mo (r.got 1)=r.num 1 from rfl,←hv] at HT;rw[←hv] at hlt⊢;clear hr hv;go_enter func163,ntmps163
 go_wp2_with fail
 refine HT.out.mono ?_;rintro e w1 ⟨rfl,h1,h2⟩;have H:=cD (cC h1 h2);clear h1 h2;go_wp2
 go_ret
 exact⟨rfl,H.out⟩
theorem lN:au prog 155 #[.p rb] w (yV w rb (.v (r.num 8)) (r.take 8)):=by
 have HT:=cD (wZ w rb r hr 8 cL);clear hr;go_enter func155,ntmps155
 go_wp2_with fail
 refine HT.out.mono ?_;rintro e w1 ⟨rfl,h1,h2⟩;have H:=cD (cC h1 h2);clear h1 h2;go_wp2
 go_ret
 exact⟨rfl,H.out⟩
theorem Rr:au prog 230 #[.p rb] w (yV w rb (.i (wrap64 (r.num 8:Nat))) (r.take 8)):=by
 have HT:=cD (lN w rb r hr);obtain⟨v,hv⟩:=cF (r.num 8);rw[←hv] at HT⊢;clear hr hv;go_enter func230,ntmps230
 go_wp2_with fail
 refine HT.out.mono ?_;rintro e w1 ⟨rfl,h1,h2⟩;have H:=cD (cC h1 h2);clear h1 h2;go_wp2
 go_ret
 exact⟨rfl,H.out⟩
theorem qW:au prog 225 #[.p rb] w fun e w'=>e=.returned (.tuple #[])∧eZ w' rb r.CZ∧cQ (·=rb) w w':=by
 obtain⟨a,c,hb,hD,hc,hm⟩:=hr.ex;have hc1:w.cell? ⟨rb,1,none⟩=some (.bool r.bad):=af _ _ 1 _ _ _ hb;have AY:w.frozen? ⟨rb,1,none⟩=false:=by simp[an,hb]
 have HB:=cD (cC hb (cC hD (cC hc hm)));clear hb hD hc hm hr;go_enter func225,ntmps225
 go_wp2
 go_end0
 have K:cQ (·=rb) w (w.setCell ⟨rb,1,none⟩ (.T)):=cQ.setCell (S:=(·=rb)) (p:=⟨rb,1,none⟩) (cQ.refl _ w) rfl _;refine⟨rfl,⟨a,c,?_,HB.out.2.1.kept K (fun b h _ e=>aC h e),HB.out.2.2⟩,K⟩;show(w.setCell ⟨rb,1,none⟩ (.T)).heap[rb]?=some (.cells #[.slice a r.b.length c,.T] 304 (0,0));simp[aK,aq,HB.out.1]
theorem Vt:au prog 164 #[.p rb] w fun e w'=>e=.returned (.i (Br r))∧w=w':=by
 obtain⟨a,c,hb,hD,hc,hm⟩:=hr.ex;obtain⟨S,bad⟩:=r;dsimp only at hb hD hc⊢;have hc0:w.cell? ⟨rb,0,none⟩=some (.slice a S.length c):=af _ _ 0 _ _ _ hb;have hc1:w.cell? ⟨rb,1,none⟩=some (.bool bad):=af _ _ 1 _ _ _ hb;obtain⟨N,hN⟩:=cF S.length;rw[←hN] at hc hc0;obtain⟨E,hE⟩:=cF (Br ⟨S,bad⟩);rw[←hE];have HE:=cD hE;have HNS:=cD hN;clear hE;clear hb hD hN hr;cases bad with
 |true=>
  clear hc0;go_enter func164,ntmps164
  go_wp2
  go_ret
  exact⟨by rw[HE.out];rfl,rfl⟩
 |false=>
 by_cases h0:N=0
 ·subst h0
  go_enter func164,ntmps164
  go_wp2
  go_ret
  have hs:S=[]:=aF HNS.out.symm;exact⟨by rw[HE.out,hs];rfl,rfl⟩
 have t1:decide ((0:Int)<(N:Int))=true:=by simp<;>omega
 have t2:decide (0<N)=true:=by simp<;>omega
 have HN:=cD h0;clear h0;go_enter func164,ntmps164
 go_wp2
 go_ret
 have hs:S≠[]:=fun e=>HN.out (by rw[HNS.out,e];rfl)
 exact⟨by rw[HE.out];unfold Br;rw[if_pos (.inr hs)];rfl,rfl⟩
theorem Vs(hl:r.b.length≤1000000000):au prog 281 #[.p rb] w (BM w rb ((r.take 4).got (r.num 4)) ((r.take 4).take (r.num 4))):=by
 have hlen:(r.take 4).b.length≤1000000000:=by
  unfold Rd.take;split
  ·exact hl
  split
  ·exact hl
  show(r.b.drop 4).length≤_;rw[aD];omega
 have HT:=cD (wZ w rb r hr 4 cL);have HB:=cD (fun(w':aa) (h:eZ w' rb (r.take 4))=>NH w' rb (r.take 4) h (r.num 4) hlen);obtain⟨v,hv⟩:=cF (r.num 4);rw[show mo (r.got 4)=r.num 4 from rfl,←hv] at HT;rw[←hv] at HB⊢;clear hr hv hlen hl;go_enter func281,ntmps281
 go_wp2_with fail
 refine HT.out.mono ?_;rintro e w1 ⟨rfl,h1,h2⟩;have H:=cD (cC h1 h2);clear h1 h2;go_wp2_with fail
 refine(HB.out w1 H.out.1).mono ?_;rintro e w2 ⟨a,c,rfl,h3,h4,h5⟩;have H2:=cD (cC h3 (cC h4 h5));clear h3 h4 h5;go_wp2
 go_ret
 exact⟨a,c,rfl,H2.out.1.mono (fun b _ h=>aH H.out.2.size h),H2.out.2.1,H.out.2.trans H2.out.2.2⟩
def Rd.count(r:Rd)(most:Nat):Nat:=if most<r.num 8 then 0 else r.num 8
def Rd.dY(r:Rd)(most:Nat):Rd:=if most<r.num 8 then (r.take 8).CZ else r.take 8
theorem Au(most:Nat)(hm:most≤1000):au prog 282 #[.p rb,.i most] w (yV w rb (.i (r.count most)) (r.dY most)):=by
 have HT:=cD (lN w rb r hr);unfold Rd.count Rd.dY;obtain⟨v,hv⟩:=cF (r.num 8);rw[←hv] at HT⊢;clear hr hv;have t0:decide ((most:Int)<0)=false:=by simp<;>omega
 by_cases hlt:most<v
 ·have t1:decide ((most:Int)<(v:Int))=true:=by simp<;>omega
  have t2:decide (most<v)=true:=by simp<;>omega
  rw[if_pos hlt,if_pos hlt];clear hlt;go_enter func282,ntmps282
  go_wp2_with fail
  refine HT.out.mono ?_;rintro e w1 ⟨rfl,h1,h2⟩;have H:=cD (cC h1 h2);clear h1 h2;go_wp2_with fail
  refine(qW w1 rb _ H.out.1).mono ?_;rintro e w2 ⟨rfl,h3,h4⟩;have H2:=cD (cC h3 h4);clear h3 h4;go_wp2
  go_ret
  exact⟨rfl,H2.out.1,H.out.2.trans H2.out.2⟩
 have t1:decide ((most:Int)<(v:Int))=false:=by simp<;>omega
 have t2:decide (most<v)=false:=by simp<;>omega
 rw[if_neg hlt,if_neg hlt];have hle:v≤1000:=by omega
 clear hlt;go_enter func282,ntmps282
 go_wp2_with fail
 refine HT.out.mono ?_;rintro e w1 ⟨rfl,h1,h2⟩;have H:=cD (cC h1 h2);clear h1 h2;go_wp2
 go_ret
 exact⟨rfl,H.out⟩
end
def nL(b:Bool):Nat:=if b=true then 1 else 0
theorem rF(w:aa){ao:Option aj}{nb c:Nat}{B:cO}(hB:BytesIn w ao nb c B)(hl:B.length≤900000000)(g:Bool):
  au prog 227 #[.slice ao nb c,.bool g] w (fe w (B++dw 1 (nL g))):=by
 have HN:=cD fun(v:Nat) (hv:v<256)=>nN w hB hl v hv
 clear hB;cases g
 ·have HN:=cD (HN.out 0 cK)
  go_enter func227,ntmps227
  go_wp2_with fail
  refine HN.out.mono ?_;rintro e w' ⟨a,n,c,rfl,h⟩;have H:=cD h;clear h;go_wp2
  go_ret
  exact⟨a,n,c,rfl,H.out⟩
 have HN:=cD (HN.out 1 cK);go_enter func227,ntmps227
 go_wp2_with fail
 refine HN.out.mono ?_;rintro e w' ⟨a,n,c,rfl,h⟩;have H:=cD h;clear h;go_wp2
 go_ret
 exact⟨a,n,c,rfl,H.out⟩
def dK(w:aa)(lo:Nat→Prop)(a:Option aj)(V:List Nat):Prop:=∀(k:Nat) v,V[k]?=some v→∃b off,a=some ⟨b,off,none⟩∧lo b∧b<w.heap.size∧w.cell? ⟨b,off+k,none⟩=some (.v (v:Int))
theorem dK.below{w w':aa}{lo:Nat→Prop}{a:Option aj}{V:List Nat}(h:dK w lo a V)(hb:cE w w'):dK w' lo a V:=fun k v hk=>by
 obtain⟨b,off,h1,h2,h3,h4⟩:=h k v hk;exact⟨b,off,h1,h2,ag h3 hb.size,(hb.cell (p:=⟨b,off+k,none⟩) h3).trans h4⟩
theorem dK.mono{w:aa}{lo lo':Nat→Prop}{a:Option aj}{V:List Nat}(h:dK w lo a V)(hl:∀b,b<w.heap.size→lo b→lo' b):dK w lo' a V:=fun k v hk=>by
 obtain⟨b,off,h1,h2,h3,h4⟩:=h k v hk;exact⟨b,off,h1,hl b h3 h2,h3,h4⟩
theorem dK.kept{w w':aa}{lo:Nat→Prop}{a:Option aj}{V:List Nat}{S:Nat→Prop}(h:dK w lo a V)(hk:cQ S w w')(hn:∀b,lo b→b<w.heap.size→¬S b):dK w' lo a V:=fun k v hv=>by
 obtain⟨b,off,h1,h2,h3,h4⟩:=h k v hv;exact⟨b,off,h1,h2,ag h3 hk.size,(hk.cell (p:=⟨b,off+k,none⟩) h3 (hn b h2 h3)).trans h4⟩
def zD(V:List Nat):Prop:=∀v∈V,v<18446744073709551616
def gw(V:List Nat):cO:=dw 8 V.length++V.flatMap (dw 8)
theorem ju{α β:Type}(f:α→List β){L:List α}{k:Nat}{x:α}(h:L[k]?=some x):(L.take (k+1)).flatMap f=(L.take k).flatMap f++f x:=by
 rw[aQ,h];simp
theorem jQ{α β:Type}(f:α→List β)(L:List α)(k:Nat):((L.take k).flatMap f).length≤(L.flatMap f).length:=by
 have h:(L.flatMap f)=(L.take k).flatMap f++(L.drop k).flatMap f:=by rw[←List.flatMap_append,List.take_append_drop]
 rw[h,aI];omega
theorem jh(V:List Nat):(gw V).length=8+8*V.length:=by
 unfold gw;rw[aI,dD,List.length_flatMap];have:((V.map fun v=>(dw 8 v).length).sum)=8*V.length:=by
  induction V with
  |nil=>rfl
  |cons v V ih=>rw[List.map_cons,List.sum_cons,ih,dD,List.length_cons];omega
 omega
structure mP(w:aa)(a:Option aj)(n:Nat)(V:List Nat):Prop where
 len:n=V.length
 cS:dK w (fun _=>True) a V
 u64:zD V
theorem mP.below{w w':aa}{a:Option aj}{n:Nat}{V:List Nat}(h:mP w a n V)(hb:cE w w'):mP w' a n V:=⟨h.len,h.cS.below hb,h.u64⟩
theorem OL(w:aa){ao:Option aj}{nb c:Nat}{B:cO}(hB:BytesIn w ao nb c B){so:Option aj}{sn sc:Nat}{V:List Nat}(hV:mP w so sn V)(hl:(B++gw V).length≤800000000):
  au prog 240 #[.slice ao nb c,.slice so sn sc,.func (.func 124) #[] #[]] w (fe w (B++gw V)):=by
 have hl1:B.length≤800000000∧sn≤800000000:=by
  rw[aI,jh,←hV.len] at hl;omega
 have HU:=cD (iW w hB cK sn cK);have HN:=cD fun(W:aa) (a:Option aj) (n c:Nat) (D:cO) (h:BytesIn W a n c D) (hd:D.length≤900000000) (v:Nat) (hv:v<18446744073709551616)=>iW W h hd v hv
 have HV:=cD (cC hV hl);have hl2:=hl1.2;clear hB hV hl hl1;go_enter func240,ntmps240
 go_wp2_with fail
 refine HU.out.mono ?_;rintro e w1 ⟨a1,n1,c1,rfl,h1⟩;have H1:=cD h1;clear h1;go_wp2
 go_loopw [0,16] (fun bv kv wr=>∃(k:Nat) (a:Option aj) (n c:Nat),k≤sn∧kv=.i k∧bv=.slice a n c∧Hid (iJ w (B++dw 8 sn++(V.take k).flatMap (dw 8)) a n c wr)) (fun _ kv _=>sn - (intOf kv).toNat)
 case atStart=>exact⟨0,a1,n1,c1,by omega,rfl,rfl,cD (by simpa using H1.out)⟩
 obtain⟨k,a,n,c,hk,rfl,rfl,HS⟩:=hrel;by_cases hlt:k<sn
 ·obtain⟨v,hv⟩:∃v,V[k]?=some v:=⟨_,aV (by rw[←HV.out.1.len];exact hlt)⟩
  obtain⟨b,off,hso,_,hb,hc⟩:=HV.out.1.cS k v hv;subst hso;have hcr:wr.cell? ⟨b,off+k,none⟩=some (.v (v:Int)):=(HS.out.bl.cell (p:=⟨b,off+k,none⟩) hb).trans hc;have hlen:(B++dw 8 sn++(V.take k).flatMap (dw 8)).length≤900000000:=by
   have h1:=HV.out.2;have h2:=jQ (dw 8) V k;unfold gw at h1;rw[←HV.out.1.len] at h1;simp only[aI] at h1⊢;omega
  have HNU:=cD (HN.out wr a n c _ HS.out.pH hlen v (HV.out.1.u64 v (List.mem_of_getElem? hv)));have HVK:=cD hv;clear hc hb hlen hv;go_wp2_with fail
  refine HNU.out.mono ?_;rintro e w2 ⟨a2,n2,c2,rfl,h1⟩;have H2:Hid (iJ w (B++dw 8 sn++(V.take (k+1)).flatMap (dw 8)) a2 n2 c2 w2):=cD ((h1.trans HS.out.bl).cast (by rw[ju _ HVK.out,aS]));clear h1;go_wp2
  go_roundw
  case rel=>exact⟨k+1,a2,n2,c2,by omega,by go_num,rfl,H2⟩
  case measure=>simp[intOf];omega
 obtain rfl:sn=k:=by omega
 have t1:decide ((sn:Int)<(sn:Int))=false:=by simp
 have t2:decide (sn<sn)=false:=by simp
 clear hlt hk;go_wp2
 go_ret
 exact⟨a,n,c,rfl,HS.out.cast (by rw[aN (by rw[←HV.out.1.len];exact ah _),aS];unfold gw;rw[←HV.out.1.len])⟩
theorem xh(w:aa){ao:Option aj}{nb c:Nat}{B:cO}(hB:BytesIn w ao nb c B){so:Option aj}{sn sc:Nat}{V:List Nat}(hV:mP w so sn V)(hl:(B++gw V).length≤800000000):
  au prog 157 #[.slice ao nb c,.slice so sn sc] w (fe w (B++gw V)):=by
 have HN:=cD (OL w hB (sc:=sc) hV hl);clear hB hV hl;go_enter func157,ntmps157
 go_wp2_with fail
 refine HN.out.mono ?_;rintro e w' ⟨a,n,c,rfl,h⟩;have H:=cD h;clear h;go_wp2
 go_ret
 exact⟨a,n,c,rfl,H.out⟩
structure eU where
 gW:Int
 BV:Int
 next:Int
 os:Int
 on:Int
 made:Int
 CI:Int
 Ch:Int
 deriving DecidableEq
structure Nd where
 data:cO
 num:eU
 deriving DecidableEq
structure Raw where
 a:Option aj
 n:Nat
 c:Nat
 num:eU
def eU.cells(d:eU):List aJ:=[.u d.gW,.u d.BV,.u d.next,.i d.os,.u d.on,.v d.made,.v d.CI,.v d.Ch]
def Raw.cells(d:Raw):List aJ:=.slice d.a d.n d.c::d.num.cells
def Raw.val(d:Raw):aJ:=.agg d.cells.toArray
structure Reads(w:aa)(lo:Nat→Prop)(r:Raw)(d:Nd):Prop where
 num:r.num=d.num
 len:r.n=d.data.length
 data:eP w lo w.heap.size r.a d.data
 nil:r.a=none→d.data=[]∧r.c=0
theorem Reads.below{w w':aa}{lo:Nat→Prop}{r:Raw}{d:Nd}(h:Reads w lo r d)(hb:cE w w'):Reads w' lo r d:=
 ⟨h.num,h.len,(h.data.below hb).mono (fun _ h=>h) hb.size,h.nil⟩
theorem Reads.mono{w:aa}{lo lo':Nat→Prop}{r:Raw}{d:Nd}(h:Reads w lo r d)(hl:∀b,lo b→lo' b):Reads w lo' r d:=⟨h.num,h.len,h.data.mono hl (ah _),h.nil⟩
theorem cQ.setCells{S:Nat→Prop}{a:aa}{p:Nat}(hp:S p):∀(vs:List aJ) (o:Nat) {b:aa},cQ S a b→cQ S a (b.setCells p o vs)
 |[],o,b,h=>h
 |v::vs,o,b,h=>cQ.setCells hp vs (o+1) (h.setCell (p:=⟨p,o,none⟩) hp v)
theorem dz{P:Program}{fn:Func}{p:Tmp}{ty:bg}(h:fn.results=#[.cell p ty])(tmps:Array aJ)(w:aa)(b o:Nat)(cs:List aJ)(d:TypeDesc)
  (hp:tmps.getD p undef=.pointer (some ⟨b,o,none⟩)) (hc:w.rangeAt b o cs) (hu:P.underlying ty=some d) (hd:d.isRow=true) (hi:(P.info? ty).map (·.size)=some cs.length):
  (results fn tmps).run P w=.ok (.agg cs.toArray) w:=by
 have hp':tmps[p]?.getD undef=.pointer (some ⟨b,o,none⟩):=by simpa using hp
 simp[results,h,hp',asAddr,run_loadVar_mid w b o ty cs d hc hu hd hi]
theorem Ls:prog.cellsOf 44=9:=by kernel_rfl
theorem EJ(w:aa)(lo:Nat→Prop)(r:Raw)(d:Nd)(h:Reads w lo r d)(hl:d.data.length≤1000000):
  au prog 205 #[r.val] w fun e w'=>∃r':Raw,e=.returned r'.val∧Reads w' (fU w.heap.size) r' d∧cE w w'∧od w.heap.size w' r'.a:=by
 obtain⟨a,n,c,u⟩:=r;obtain⟨D,u'⟩:=d;obtain⟨h1,h2,h3,h4⟩:=h;dsimp only at h1 h2 h3 h4 hl;subst h1;obtain⟨v1,v2,v3,v4,v5,v6,v7,v8⟩:=u;unfold Raw.val Raw.cells eU.cells;dsimp only;subst h2;obtain⟨w2,fH⟩:=cF ((w.alloc (.cells #[.slice a D.length c,.u v1,.u v2,.u v3,.i v4,.u v5,.v v6,.v v7,.v v8] 44)).alloc (.cells #[.n,.U,.U,.U,.I,.U,.V,.V,.V] 44));have dI:cE w w2:=by rw[fH];exact cT (cT (aA _ w) _) _
 have hc:=BE w2 a c lo D hl ((h3.below dI).mono (fun _ h=>h) dI.size) h4;obtain⟨N,hN⟩:=cF D.length;rw[←hN] at hc fH⊢;have HC:=cD hc;have iK:=cD dI;have HN:=cD hN;clear h3 h4 hc dI hN hl;go_enter func205,ntmps205
 go_wp2_with fail
 rw[←fH];have g1:w2.heap[w.heap.size]?=some (.cells #[.slice a N c,.u v1,.u v2,.u v3,.i v4,.u v5,.v v6,.v v7,.v v8] 44 (0,0)):=by rw[fH];exact(aX _ _ cM).trans (aM w _)
 have g2:w2.heap[w.heap.size+1]?=some (.cells #[.n,.U,.U,.U,.I,.U,.V,.V,.V] 44 (0,0)):=by
  have:=aM (w.alloc (.cells #[.slice a N c,.u v1,.u v2,.u v3,.i v4,.u v5,.v v6,.v v7,.v v8] 44)) (.cells #[.n,.U,.U,.U,.I,.U,.V,.V,.V] 44);rw[World.size_alloc] at this;rw[fH];exact this
 have hs2:w.heap.size+1<w2.heap.size:=by rw[fH];simp
 clear fH;refine HC.out.mono ?_;rintro e w3 ⟨a',c',rfl,B3,K3,N3,F3⟩;have k1:=(K3.block _ cK).trans g1;have k2:=(K3.block _ hs2).trans g2;have SB:w.heap.size<w3.heap.size:=by have:=K3.size;omega
 have hlt2:w.heap.size+1<w3.heap.size:=by have:=K3.size;omega
 have c0:w3.cell? ⟨w.heap.size,0,none⟩=some (.slice a N c):=af _ _ 0 _ 44 (0,0) k1;have f0:w3.frozen? ⟨w.heap.size,0,none⟩=false:=by simp[an,k1]
 have UI:(w3.setCell ⟨w.heap.size,0,none⟩ (.slice a' N c')).rangeAt w.heap.size 0 [.slice a' N c',.u v1,.u v2,.u v3,.i v4,.u v5,.v v6,.v v7,.v v8]:=by
  have h4:(w3.setCell ⟨w.heap.size,0,none⟩ (.slice a' N c')).heap[w.heap.size]?=some (.cells #[.slice a' N c',.u v1,.u v2,.u v3,.i v4,.u v5,.v v6,.v v7,.v v8] 44 (0,0)):=by
   simp[aK,aq,k1]
  intro j v hv;rw[aG];exact(af _ _ j _ 44 (0,0) h4).trans (by simpa using hv)
 have Qo:(w3.setCell ⟨w.heap.size,0,none⟩ (.slice a' N c')).there (w.heap.size+1) 0 9:=by
  have h5:(w3.setCell ⟨w.heap.size,0,none⟩ (.slice a' N c')).heap[w.heap.size+1]?=some (.cells #[.n,.U,.U,.U,.I,.U,.V,.V,.V] 44 (0,0)):=by
   rw[Below.heap_setCell _ _ _ _ cM];exact k2
  intro j hj;refine⟨?_,by simp[an,h5]⟩;rw[aG,af _ _ j _ 44 (0,0) h5];rcases(show j=0∨j=1∨j=2∨j=3∨j=4∨j=5∨j=6∨j=7∨j=8 by omega) with rfl|rfl|rfl|rfl|rfl|rfl|rfl|rfl|rfl<;>rfl
 have HR4:=cD UI;have Uf:=cD Qo;have mQ:=cD (cC B3 (cC K3 (cC N3 F3)));have akr:Hid (w.heap.size≤w3.heap.size):=cD cK;have HS2:=cD hs2;have fm:Hid (cG 44 9):=cD cJ;have gG:Hid ((#[.slice a' N c',.u v1,.u v2,.u v3,.i v4,.u v5,.v v6,.v v7,.v v8]:Array aJ).all (·.oneCell')=true):=cD (by simp[Value.oneCell']);clear g1 g2 hs2 B3 K3 N3 F3 HC k1 k2 UI Qo SB hlt2;go_wp2_with (first
  |(refine wpList_load_mid rfl 44 (.tmp 1) rfl w.heap.size 0 rfl [.slice a' N c',.u v1,.u v2,.u v3,.i v4,.u v5,.v v6,.v v7,.v v8] _ HR4.out underlying44 rfl fm.out ?_)
  |(refine wpList_store_mid rfl 44 (.tmp 2) (.tmp 7) rfl (w.heap.size+1) 0 #[.slice a' N c',.u v1,.u v2,.u v3,.i v4,.u v5,.v v6,.v v7,.v v8] rfl rfl Uf.out fm.out gG.out ?_))
 refine bodyPost_ret (dz rfl _ _ (w.heap.size+1) 0 [.slice a' N c',.u v1,.u v2,.u v3,.i v4,.u v5,.v v6,.v v7,.v v8] _ rfl (aT _ _ _ _ Uf.out) underlying44 rfl fm.out) rfl ?_;obtain⟨B3,K3,N3,F3⟩:=mQ.out;have hk:cQ (fun k=>k=w.heap.size∨k=w.heap.size+1) w3 ((w3.setCell ⟨w.heap.size,0,none⟩ (.slice a' N c')).setCells (w.heap.size+1) 0 [.slice a' N c',.u v1,.u v2,.u v3,.i v4,.u v5,.v v6,.v v7,.v v8]):=
  cQ.setCells (p:=w.heap.size+1) (.inr rfl) _ _ ((cQ.refl _ w3).setCell (p:=⟨w.heap.size,0,none⟩) (.inl rfl) _)
 have hs2:w.heap.size+1<w2.heap.size:=HS2.out;refine⟨⟨a',N,c',⟨v1,v2,v3,v4,v5,v6,v7,v8⟩⟩,rfl,⟨rfl,HN.out,?_,N3⟩,?_,(F3.kept hk (fun k h=>by omega)).mono cK⟩
 ·exact((B3.kept hk (ah _) (fun b h1 h2 _ e=>by omega)).mono (fun _ h=>by have h:w2.heap.size≤_:=h;show w.heap.size≤_;omega) hk.size)
 exact(iK.out.trans (K3.mono iK.out.size)).trans (hk.below akr.out (fun k h=>by omega))
end
section
open Go.RowKit Go.Shelf Go.MapKept Go.ChangeMaps
open Go.Maps (Keyed)
theorem tS:∀x y,sv x=sv y→x=y:=fun x y h=>by
 unfold sv at h
 injection h with h
 exact TO h
theorem oJ:Keyed prog 9:=Maps.string_keyed underlying9
theorem zY{p:cO}(h:p.length≤aE):∃l,keyOf prog 9 (sv p)=some l:=⟨_,WideMaps.keyOf_string_mk underlying9 (by rw[fL];exact h)⟩
def iV(w:aa)(lo:Nat→Prop):List (cO×Raw)→List (cO×Nd)→Prop
 |[],[]=>True
 |x::m,y::M=>(x.1=y.1∧Reads w lo x.2 y.2)∧iV w lo m M
 |_,_=>False
theorem iV.keys{w:aa}{lo:Nat→Prop}:∀{m:List (cO×Raw)} {M:List (cO×Nd)},iV w lo m M→m.map (·.1)=M.map (·.1)
 |[],[],_=>rfl
 |x::m,y::M,h=>by
  simp only[List.map_cons];rw[h.1.1,iV.keys h.2]
 |[],_::_,h=>h.elim
 |_::_,[],h=>h.elim
theorem iV.len{w:aa}{lo:Nat→Prop}{m:List (cO×Raw)}{M:List (cO×Nd)}(h:iV w lo m M):m.length=M.length:=by
 have:=congrArg List.length h.keys;simpa using this
theorem iV.imp{w w':aa}{lo lo':Nat→Prop}(f:∀r d,Reads w lo r d→Reads w' lo' r d):∀{m:List (cO×Raw)} {M:List (cO×Nd)},iV w lo m M→iV w' lo' m M
 |[],[],_=>trivial
 |x::m,y::M,h=>⟨⟨h.1.1,f _ _ h.1.2⟩,iV.imp f h.2⟩
 |[],_::_,h=>h.elim
 |_::_,[],h=>h.elim
theorem iV.get{w:aa}{lo:Nat→Prop}(p:cO):∀{m:List (cO×Raw)} {M:List (cO×Nd)},iV w lo m M→(dL p m=none∧dL p M=none)∨∃r d,dL p m=some r∧dL p M=some d∧Reads w lo r d
 |[],[],_=>.inl ⟨rfl,rfl⟩
 |x::m,y::M,h=>by
  simp only[dL];rw[h.1.1];by_cases e:y.1=p
  ·rw[if_pos e,if_pos e]
   exact .inr ⟨_,_,rfl,rfl,h.1.2⟩
  ·rw[if_neg e,if_neg e]
   exact iV.get p h.2
 |[],_::_,h=>h.elim
 |_::_,[],h=>h.elim
theorem iV.put{w:aa}{lo:Nat→Prop}(p:cO){r:Raw}{d:Nd}(hr:Reads w lo r d):∀{m:List (cO×Raw)} {M:List (cO×Nd)},iV w lo m M→iV w lo (iL p r m) (iL p d M)
 |[],[],_=>⟨⟨rfl,hr⟩,trivial⟩
 |x::m,y::M,h=>by
  simp only[iL];rw[h.1.1];by_cases e:y.1=p
  ·rw[if_pos e,if_pos e]
   exact⟨⟨rfl,hr⟩,h.2⟩
  ·rw[if_neg e,if_neg e]
   exact⟨⟨h.1.1,h.1.2⟩,iV.put p hr h.2⟩
 |[],_::_,h=>h.elim
 |_::_,[],h=>h.elim
theorem iV.del{w:aa}{lo:Nat→Prop}(p:cO):∀{m:List (cO×Raw)} {M:List (cO×Nd)},iV w lo m M→iV w lo (oO p m) (oO p M)
 |[],[],_=>trivial
 |x::m,y::M,h=>by
  simp only[oO];rw[h.1.1];by_cases e:y.1=p
  ·rw[if_pos e,if_pos e]
   exact h.2
  ·rw[if_neg e,if_neg e]
   exact⟨⟨h.1.1,h.1.2⟩,iV.del p h.2⟩
 |[],_::_,h=>h.elim
 |_::_,[],h=>h.elim
structure dN(w:aa)(lo:Nat→Prop)(b mb:Nat)(cP:cO)(cS:Int)(M:List (cO×Nd)):Prop where
 blk:w.heap[b]?=some (.cells #[.s cP,.v cS,.map (some mb)] 122 (0,0))
 map:∃m,dS prog 9 sv Raw.val w mb m∧iV w lo m M
section
variable{w:World}{lo:Nat→Prop}{b mb:Nat}{cP:cO}{cS:Int}{M:List (cO×Nd)}
theorem dN.below(T:dN w lo b mb cP cS M){w':aa}(hb:cE w w'):dN w' lo b mb cP cS M:=by
 obtain⟨m,h1,h2⟩:=T.map;exact⟨(hb.block _ (aP T.blk)).trans T.blk,m,h1.of_block (hb.block _ h1.lt),h2.imp fun _ _ h=>h.below hb⟩
theorem dN.cells(T:dN w lo b mb cP cS M):w.cell? ⟨b,0,none⟩=some (.s cP)∧w.cell? ⟨b,1,none⟩=some (.v cS)∧w.cell? ⟨b,2,none⟩=some (.map (some mb)):=
 ⟨af _ _ 0 _ _ (0,0) T.blk,af _ _ 1 _ _ (0,0) T.blk,af _ _ 2 _ _ (0,0) T.blk⟩
theorem dN.Aq(T:dN w lo b mb cP cS M):au prog 184 #[.p b] w fun e w'=>e=.returned (.s cP)∧w'=w:=by
 obtain⟨c0,c1,c2⟩:=T.cells;clear T;go_enter func184,ntmps184
 go_wp2
 go_ret
 exact⟨rfl,rfl⟩
theorem dN.FA(T:dN w lo b mb cP cS M):au prog 73 #[.p b] w fun e w'=>e=.returned (.v cS)∧w'=w:=by
 obtain⟨c0,c1,c2⟩:=T.cells;clear T;go_enter func73,ntmps73
 go_wp2
 go_ret
 exact⟨rfl,rfl⟩
end
theorem pM{κ ν:Type}[DecidableEq κ]{a:κ}{v:ν}:∀{m:List (κ×ν)},dL a m=some v→∃x∈m,x.2=v
 |[],h=>by simp[dL] at h
 |p::r,h=>by
  unfold dL at h;split at h
  ·cases h;exact⟨p,List.mem_cons_self ..,rfl⟩
  ·obtain⟨x,hx,he⟩:=pM h
   exact⟨x,List.mem_cons_of_mem _ hx,he⟩
def L1:eU:=⟨0,0,0,0,0,0,0,0⟩
def iQ:Nd:=⟨[],L1⟩
def oS:Raw:=⟨none,0,0,L1⟩
theorem mX(w:aa)(lo:Nat→Prop):Reads w lo oS iQ:=⟨rfl,rfl,fun j c h=>by simp[iQ] at h,fun _=>⟨rfl,rfl⟩⟩
theorem L0(w:aa):(zeroValue 44).run prog w=.ok oS.val w:=by kernel_rfl
theorem iF{P:Program}{fn:Func}{p u:Tmp}{ty:bg}(h:fn.results=#[.cell p ty,.tmp u])(tmps:Array aJ)(w:aa)(b o:Nat)(cs:List aJ)(d:TypeDesc)
  (hp:tmps.getD p undef=.pointer (some ⟨b,o,none⟩)) (hc:w.rangeAt b o cs) (hu:P.underlying ty=some d) (hd:d.isRow=true) (hi:(P.info? ty).map (·.size)=some cs.length):
  (results fn tmps).run P w=.ok (.tuple #[.agg cs.toArray,tmps.getD u undef]) w:=by
 rw[results_cell_tmp h,hp];simp[asAddr,run_loadVar_mid w b o ty cs d hc hu hd hi,Result.andThen]
theorem dN.look{w:aa}{lo:Nat→Prop}{b mb:Nat}{cP:cO}{cS:Int}{M:List (cO×Nd)}(T:dN w lo b mb cP cS M){p:cO}(hp:p.length≤aE):
  ∃r:Raw,Reads w lo r ((dL p M).getD iQ)∧∀W,W.heap[mb]?=w.heap[mb]?→(Instr.lookup 120 (.map (some mb)) (.s p) true).run prog W=.ok (.tuple #[r.val,.bool (dL p M).isSome]) W:=by
 obtain⟨m,hm,hl⟩:=T.map;obtain⟨l,hk⟩:=zY hp;rcases hl.get p with ⟨h1,h2⟩|⟨r,d,h1,h2,h3⟩
 ·refine⟨oS,?_,fun W hW=>?_⟩
  ·rw[h2]
   exact mX _ _
  have:=(hm.of_block hW).mT oJ tS underlying120 (L0 W) hk;rw[h1] at this;rw[h2];exact this
 refine⟨r,?_,fun W hW=>?_⟩
 ·rw[h2]
  exact h3
 have:=(hm.of_block hW).mT oJ tS underlying120 (L0 W) hk;rw[h1] at this;rw[h2];exact this
theorem dN.Fl{w:aa}{lo:Nat→Prop}{b mb:Nat}{cP:cO}{cS:Int}{M:List (cO×Nd)}(T:dN w lo b mb cP cS M)(p:cO)(hp:p.length≤aE)(hd:∀x∈M,x.2.data.length≤1000000):
  au prog 112 #[.p b,.s p] w fun e w'=>∃r:Raw,e=.returned (.tuple #[r.val,.bool (dL p M).isSome])∧Reads w' (fU w.heap.size) r ((dL p M).getD iQ)∧cE w w'∧od w.heap.size w' r.a:=by
 obtain⟨r,hr,hq⟩:=T.look hp;have Ww:((dL p M).getD iQ).data.length≤1000000:=by
  cases h:dL p M with
  |none=>simp[iQ]
  |some d=>
  obtain⟨x,hx,he⟩:=pM h;subst he;exact hd x hx
 generalize (dL p M).getD iQ=nd at*;generalize (dL p M).isSome=is at*;have hmb:mb<w.heap.size:=by obtain⟨m,hm,_⟩:=T.map;exact hm.lt
 have gQ:b<w.heap.size:=aP T.blk;obtain⟨c0,c1,c2⟩:=T.cells;obtain⟨a,n,c,⟨v1,v2,v3,v4,v5,v6,v7,v8⟩⟩:=r;obtain⟨w1,hw1⟩:=cF (w.alloc (.cells #[.n,.U,.U,.U,.I,.U,.V,.V,.V] 44));have q:=hq w1 (by rw[hw1];exact aX _ _ hmb);unfold Raw.val Raw.cells eU.cells at q;dsimp only at q;rw[hw1] at q;obtain⟨w2,fH⟩:=cF (w1.alloc (.cells #[.slice a n c,.u v1,.u v2,.u v3,.i v4,.u v5,.v v6,.v v7,.v v8] 44));have dI:cE w w2:=by rw[fH,hw1];exact cT (cT (aA _ w) _) _
 have hown:=EJ w2 lo ⟨a,n,c,⟨v1,v2,v3,v4,v5,v6,v7,v8⟩⟩ nd (hr.below dI) Ww;unfold Raw.val Raw.cells eU.cells at hown;dsimp only at hown;have Ug:=cD hown;have iK:=cD dI;have hz2:w2.heap[w.heap.size]?=some (.cells #[.n,.U,.U,.U,.I,.U,.V,.V,.V] 44 (0,0)):=by
  rw[fH,hw1];exact(aX _ _ cM).trans (aM w _)
 have HZ2:=cD hz2;have nW:=cD (show w2=(w.alloc (.cells #[.n,.U,.U,.U,.I,.U,.V,.V,.V] 44)).alloc (.cells #[.slice a n c,.u v1,.u v2,.u v3,.i v4,.u v5,.v v6,.v v7,.v v8] 44) by rw[fH,hw1]);clear hown dI hz2 hw1 fH hr hq Ww T;go_enter func112,ntmps112
 go_wp2_with fail
 rw[←nW.out];refine Ug.out.mono ?_;rintro e w3 ⟨⟨a2,n2,cx,⟨x1,x2,x3,x4,x5,x6,x7,x8⟩⟩,rfl,R3,B3,F3⟩;have hlt2:w.heap.size+2≤w2.heap.size:=by rw[nW.out];simp
 have k3:=(B3.block w.heap.size cK).trans HZ2.out;have ht:w3.there w.heap.size 0 9:=by
  intro j hj;refine⟨?_,by simp[an,k3]⟩;rw[aG,af _ _ j _ 44 (0,0) k3];rcases(show j=0∨j=1∨j=2∨j=3∨j=4∨j=5∨j=6∨j=7∨j=8 by omega) with rfl|rfl|rfl|rfl|rfl|rfl|rfl|rfl|rfl<;>rfl
 have HT:=cD ht;have HR3:=cD (cC R3 (cC B3 (cC hlt2 F3)));have fm:Hid (cG 44 9):=cD cJ;have gG:Hid ((#[.slice a2 n2 cx,.u x1,.u x2,.u x3,.i x4,.u x5,.v x6,.v x7,.v x8]:Array aJ).all (·.oneCell')=true):=cD (by simp[Value.oneCell']);clear R3 B3 F3 hlt2 k3 ht c0 c1 c2 q;dsimp only;go_wp2_with (first
  |(refine wpList_store_mid rfl 44 (.tmp 4) (.tmp 21) rfl w.heap.size 0 #[.slice a2 n2 cx,.u x1,.u x2,.u x3,.i x4,.u x5,.v x6,.v x7,.v x8] rfl rfl HT.out fm.out gG.out ?_))
 refine bodyPost_ret (iF rfl _ _ w.heap.size 0 [.slice a2 n2 cx,.u x1,.u x2,.u x3,.i x4,.u x5,.v x6,.v x7,.v x8] _ rfl (aT _ _ _ _ HT.out) underlying44 rfl fm.out) rfl ?_;obtain⟨R3,B3,hlt2,F3⟩:=HR3.out;have hk:cQ (fun k=>k=w.heap.size) w3 (w3.setCells w.heap.size 0 [.slice a2 n2 cx,.u x1,.u x2,.u x3,.i x4,.u x5,.v x6,.v x7,.v x8]):=cQ.setCells (S:=fun k=>k=w.heap.size) (p:=w.heap.size) rfl _ _ (cQ.refl _ w3);have hs3:w2.heap.size≤w3.heap.size:=B3.size;refine⟨⟨a2,n2,cx,⟨x1,x2,x3,x4,x5,x6,x7,x8⟩⟩,rfl,⟨R3.num,R3.len,?_,R3.nil⟩,?_,(F3.kept hk (fun k h=>by omega)).mono cK⟩
 ·exact(R3.data.kept hk (ah _) (fun b h1 h2 _ e=>by omega)).mono (fun _ h=>by have h:_≤_:=h;show w.heap.size≤_;omega) hk.size
 exact(iK.out.trans (B3.mono iK.out.size)).trans (hk.below cK (fun k h=>by omega))
end
