/- Part 40. -/
import Derived.Test.YtdpaejbaoefdjaaGreatDoorG39
import Derived.Test.YtdpaejbaoefdjaaGreatDoorG35
import Derived.Test.YtdpaejbaoefdjaaGreatDoorG31
open List renaming length_append → aa,getElem?_eq_getElem → af,toList_toArray → aq,getElem?_append_right → aA,getElem?_eq_some_iff → aB,getElem?_append_left → aE,mem_iff_getElem? → aK,mem_of_getElem? → aN,mem_cons_self → aO
open Go renaming World → ag,wpList_store_mid → ah,Calls → au,wpList_load_mid → ay,Value → aC,heap_alloc_new → aD,cell_of_row → aG,Ending → aL,Addr → aM
open Nat renaming le_refl → aj,lt_or_ge → aJ,lt_of_lt_of_le → aP
open Go.RowKit.Below renaming refl → an
open Int renaming toNat_natCast → aF
open Go.Value renaming oneCell' → aH
open Go.World renaming block_lt_of_cell? → aI
namespace Go.Proofs.YtdpaejbaoefdjaaGreatDoor
open Go.Proofs.Tryz
set_option maxRecDepth 100000
set_option maxHeartbeats 64000000
set_option linter.unusedVariables false
set_option linter.unusedSimpArgs false
section
open Go.RowKit Go.Shelf Go.MapKept Go.ChangeMaps
structure qv where
 X:jA
 o:di
 i:ei
 L:List dr
 fa:Option aM
 fc:Nat
def qv.cells(x:qv):List aC:=x.X.cells x.o x.i x.fa x.fc
def LX(w:ag)(a:Option aM)(L:List qv):Prop:=∀(k:Nat) x,L[k]?=some x→∃b off,a=some ⟨b,off,none⟩∧b<w.heap.size∧w.rangeAt b (off+k*23) x.cells∧pV w x.X x.o x.i x.L x.fa∧ki w x.o x.X.oP
theorem J7{w:ag}{n:Nat}{r:di}{D:cO}(h:qJ w n r D):∀j,j<r.pn→∃b off q,r.pa=some ⟨b,off,none⟩∧b<w.heap.size∧w.rangeAt b (off+j*7) (di.cells q):=fun j hj=>by
 cases n with
 |zero=>exact h.elim
 |succ n=>
  obtain⟨o,Ds,_,_,_,h4,h5⟩:=h;obtain⟨b,off,q,g1,g2,g3,_⟩:=h5 j _ (af cK);exact⟨b,off,q,g1,g2,g3⟩
def Uq(n:Nat)(w:ag)(e:aL)(w':ag):Prop:=(∃g,e=.returned (.bool g)∧(g=false→n≤60))∧cE w w'
theorem He(w:ag)(a:Option aM)(c:Nat)(L:List qv)(hat:LX w a L)(hl:L.length≤maxLen):
  au prog 11 #[.slice a L.length c] w (Uq L.length w):=by
 obtain⟨n,hn⟩:=cF L.length;rw[←hn];rw[←hn] at hl;unfold maxLen at hl;have HA:=cD (cC hat hn);have Cb:Hid (cG 42 23):=cD cJ;clear hat hn;by_cases h60:60<n
 ·have t1:decide ((60:Int)<(n:Int))=true:=by simp;omega
  clear h60;go_enter func11,ntmps11
  go_wp2
  go_ret
  exact⟨⟨_,rfl,fun h=>by cases h⟩,an _ _⟩
 have t0:decide ((60:Int)<(n:Int))=false:=by simp;omega
 have adN:n≤60:=by omega
 clear h60 hl;go_enter func11,ntmps11
 go_wp2_with fail
 go_loopw [3] (fun iv wr=>∃k:Nat,k≤n∧iv=.i k∧Hid (cE w wr)) (fun iv _=>n - (intOf iv).toNat)
 case atStart=>exact⟨0,by omega,rfl,cD (an _ _)⟩
 obtain⟨k,hk,rfl,HS⟩:=hrel;by_cases hlt:k<n
 ·obtain⟨x,hx⟩:∃x,L[k]?=some x:=⟨_,af (by rw[←HA.out.2];exact hlt)⟩
  obtain⟨b,off,ha,hb,fS,hin,_⟩:=HA.out.1 k x hx;subst ha;have hrw:=dR fS HS.out hb;obtain⟨X,⟨ok,op,oa,on,oc,ov,os,oe,pa,pn,pc⟩,⟨sa,sc,ea,ec⟩,Li,fa,fc⟩:=x;obtain⟨dn,hop⟩:=(hin.below HS.out).op;have Kx:=J7 hop;dsimp only at Kx;obtain⟨CS,uj⟩:∃l,l=qv.cells ⟨X,⟨ok,op,oa,on,oc,ov,os,oe,pa,pn,pc⟩,⟨sa,sc,ea,ec⟩,Li,fa,fc⟩:=⟨_,rfl⟩;obtain⟨sn,FQ⟩:∃m,m=X.eu.de.length:=⟨_,rfl⟩;obtain⟨en,DG⟩:∃m,m=X.eu.dF.length:=⟨_,rfl⟩;obtain⟨fn,hfn⟩:∃m,m=X.fr.length:=⟨_,rfl⟩;have SR:CS.length=23:=by rw[uj];rfl
  have hone:(CS.toArray:Array aC).all (·.oneCell')=true:=by rw[uj];simp[qv.cells,jA.cells,iA,aH]
  have q6:CS[6]?=some (.s op):=by rw[uj];rfl
  have q7:CS[7]?=some (.slice oa on oc):=by rw[uj];rfl
  have q11:CS[11]?=some (.slice pa pn pc):=by rw[uj];rfl
  have q16:CS[16]?=some (.slice sa sn sc):=by rw[uj,FQ];rfl
  have Zs:CS[17]?=some (.slice ea en ec):=by rw[uj,DG];rfl
  have q22:CS[22]?=some (.slice fa fn fc):=by rw[uj,hfn];rfl
  rw[←uj] at hrw;obtain⟨w1,hw1⟩:∃a,a=wr.alloc (.cells #[.B,.U,.U,.I,.U,.B,.z,.n,.I,.F,.F,.n,.I,.V,.I,.V,.n,.n,.U,.I,.I,.V,.n] 42):=⟨_,rfl⟩;have k1:w1.heap[wr.heap.size]?=some (.cells #[.B,.U,.U,.I,.U,.B,.z,.n,.I,.F,.F,.n,.I,.V,.I,.V,.n,.n,.U,.I,.I,.V,.n] 42 (0,0)):=by rw[hw1];exact aD wr _
  have dB:cE wr w1:=by rw[hw1];exact cT (an _ wr) _
  obtain⟨w2,fH⟩:∃a,a=w1.setCells wr.heap.size 0 CS:=⟨_,rfl⟩;have k2:w2.heap[wr.heap.size]?=some (.cells CS.toArray 42 (0,0)):=by rw[fH];exact gq k1 SR
  have dI:cE wr w2:=by rw[fH];exact jc (w1:=wr) dB 0 _ (aj _)
  have nT:=cD hrw;have nS:=cD hw1;have nW:=cD fH;have I3:Hid (cG 42 CS.length):=cD (by rw[SR];exact Cb.out);have HSA:Hid (cG 42 CS.toArray.size):=cD (by rw[show CS.toArray.size=23 by simpa using SR];exact Cb.out);have HT:Hid (w1.there wr.heap.size 0 CS.toArray.size):=cD (by rw[show CS.toArray.size=23 by simpa using SR];exact ey k1 0 23 cM);have gG:=cD hone;have hcell:∀j v,CS[j]?=some v→w2.cell? ⟨wr.heap.size,j,none⟩=some v:=fun j v hv=>by
   rw[aG _ _ j _ 42 (0,0) k2];simpa using hv
  have z6:=hcell 6 _ q6;have z7:=hcell 7 _ q7;have z11:=hcell 11 _ q11;have z16:=hcell 16 _ q16;have z17:=hcell 17 _ Zs;have z22:=hcell 22 _ q22;have HPT:Hid (∀j,j<pn→∃b off q,pa=some ⟨b,off,none⟩∧w2.rangeAt b (off+j*7) (di.cells q)):=cD (fun j hj=>by
   obtain⟨b,off,q,g1,g2,g3⟩:=Kx j hj;exact⟨b,off,q,g1,dR g3 dI g2⟩)
  have UZ:=cD (HS.out.trans (dI.mono HS.out.size));have tlt:decide ((k:Int)<(n:Int))=true:=by simp;omega
  have anV:decide (k<n)=true:=by simp;omega
  clear hx hb fS hrw hin hop Kx uj FQ DG hfn SR hone q6 q7 q11 q16 Zs q22 hw1 k1 dB fH k2 dI hcell;go_upto_region 7 with (first
   |(rw[←nS.out];refine ah rfl 42 (.tmp 4) (.tmp 18) rfl wr.heap.size 0 CS.toArray rfl rfl HT.out HSA.out gG.out ?_;rw[aq,←nW.out])
   |(refine ay rfl 42 (.tmp 17) rfl b (off+k*23) rfl CS _ nT.out underlying42 rfl I3.out ?_)
   |fail)
  by_cases aeU:decide ((200:Int)<((bs op).size:Int))=true
  ·go_wp2_with fail
   go_ret
   exact⟨⟨_,rfl,fun h=>by cases h⟩,UZ.out⟩
  replace aeU:decide ((200:Int)<((bs op).size:Int))=false:=by simpa using aeU
  by_cases aeT:decide ((200:Int)<(on:Int))=true
  ·go_wp2_with fail
   go_ret
   exact⟨⟨_,rfl,fun h=>by cases h⟩,UZ.out⟩
  replace aeT:decide ((200:Int)<(on:Int))=false:=by simpa using aeT
  by_cases aaV:decide ((10:Int)<(pn:Int))=true
  ·go_wp2_with fail
   go_ret
   exact⟨⟨_,rfl,fun h=>by cases h⟩,UZ.out⟩
  replace aaV:decide ((10:Int)<(pn:Int))=false:=by simpa using aaV
  by_cases aeS:decide ((20:Int)<(en:Int))=true
  ·go_wp2_with fail
   go_ret
   exact⟨⟨_,rfl,fun h=>by cases h⟩,UZ.out⟩
  replace aeS:decide ((20:Int)<(en:Int))=false:=by simpa using aeS
  by_cases aeR:decide ((10:Int)<(sn:Int))=true
  ·go_wp2_with fail
   go_ret
   exact⟨⟨_,rfl,fun h=>by cases h⟩,UZ.out⟩
  replace aeR:decide ((10:Int)<(sn:Int))=false:=by simpa using aeR
  by_cases aeQ:decide ((10:Int)<(fn:Int))=true
  ·go_wp2_with fail
   go_ret
   exact⟨⟨_,rfl,fun h=>by cases h⟩,UZ.out⟩
  replace aeQ:decide ((10:Int)<(fn:Int))=false:=by simpa using aeQ
  have alE:pn≤10:=by have:=aaV;simp at this;omega
  go_wp2_with fail
  go_loopw [5] (fun jv wr2=>∃j:Nat,j≤pn∧jv=.i j∧Hid (wr2=w2)) (fun jv _=>pn - (intOf jv).toNat)
  case atStart=>exact⟨0,by omega,rfl,cD rfl⟩
  obtain⟨j,hj,rfl,HE⟩:=hrel;obtain rfl:=HE.out;by_cases hjt:j<pn
  ·have tj:decide ((j:Int)<(pn:Int))=true:=by simp;omega
   have tjn:decide (j<pn)=true:=by simp;omega
   obtain⟨gb,go_,⟨pk,pp,da,dn,dc,pv,Zt,Zu,ga,gn,gc⟩,hqa,fS⟩:=HPT.out j hjt;subst hqa;have v1:=fS 1 _ rfl;have v2:=fS 2 _ rfl;have v6:=fS 6 _ rfl;clear fS;go_upto_region 12 with fail
   by_cases aeX:decide ((200:Int)<((bs pp).size:Int))=true
   ·go_wp2_with fail
    go_ret
    exact⟨⟨_,rfl,fun h=>by cases h⟩,UZ.out⟩
   replace aeX:decide ((200:Int)<((bs pp).size:Int))=false:=by simpa using aeX
   by_cases aeW:decide ((200:Int)<(dn:Int))=true
   ·go_wp2_with fail
    go_ret
    exact⟨⟨_,rfl,fun h=>by cases h⟩,UZ.out⟩
   replace aeW:decide ((200:Int)<(dn:Int))=false:=by simpa using aeW
   by_cases aeV:decide ((2:Int)<(gn:Int))=true
   ·go_wp2_with fail
    go_ret
    exact⟨⟨_,rfl,fun h=>by cases h⟩,UZ.out⟩
   replace aeV:decide ((2:Int)<(gn:Int))=false:=by simpa using aeV
   go_wp2_with fail
   go_roundw
   case rel=>exact⟨j+1,by omega,by go_num,cD trivial⟩
   case measure=>simp[intOf];omega
  obtain rfl:j=pn:=by omega
  go_wp2_with fail
  go_roundw
  case rel=>exact⟨k+1,by omega,by go_num,UZ⟩
  case measure=>simp[intOf];omega
 obtain rfl:k=n:=by omega
 go_wp2_with fail
 go_ret
 exact⟨⟨_,rfl,fun _=>by omega⟩,HS.out⟩
def xM(k:Int)(p:cO):di:=⟨k,p,none,0,0,0,false,false,none,0,0⟩
def gRI:ei:=⟨none,0,none,0⟩
theorem pN(w:ag)(kind:Nat)(k:Int)(p:cO)(ep:Nat){fr:List Nat}{fa:Option aM}(hfr:dK w (fun _=>True) fa fr)(h1:kind<256)(h2:0≤k∧k<256)(h3:p.length≤64)(h4:ep<1000)(h5:fr.length≤1000)(h6:zD fr):
  pV w (gX kind (gO k p) ep fr) (xM k p) gRI [] fa∧ki w (xM k p) (gX kind (gO k p) ep fr).oP:=by
 have hnb:∀lo hi a,eP w lo hi a []:=fun lo hi a j c hj=>by simp at hj
 refine⟨⟨⟨1,gO k p,[],⟨rfl,rfl,rfl,rfl,rfl,rfl,hnb _ _ _,fun _=>⟨rfl,rfl⟩⟩,⟨h2,by show -9223372036854775808≤(0:Int);decide,by show(0:Int)<9223372036854775808;decide⟩,rfl,rfl,fun k D hD=>by simp at hD⟩,⟨⟨rfl,fun k v hk=>by simp[mY,gX] at hk,fun v hv=>by simp[mY,gX] at hv⟩,⟨rfl,⟨rfl,fun k r e hk=>by simp at hk⟩,fun k r hk=>by simp at hk,fun e he=>by simp[mY,gX] at he⟩,(by show(0:Nat)<18446744073709551616;decide),(by show(0:Nat)<18446744073709551616;decide),(by show(0:Nat)<4294967296;decide)⟩,⟨rfl,hfr,h6⟩,⟨h1,(by show(0:Nat)<4294967296;decide),(by show(0:Nat)<4294967296;decide),(by show nR 0;exact⟨by decide,by decide⟩),(by show(0:Nat)<4294967296;decide),(by show nR 0;exact⟨by decide,by decide⟩),(by show nR 0;exact⟨by decide,by decide⟩),by show ep<_;omega,(by show nR 0;exact⟨by decide,by decide⟩),(by show nR 0;exact⟨by decide,by decide⟩)⟩,?_⟩,[],fun _=>true,fun k c hk=>by simp at hk,rfl,(by show(0:Nat)≤1000000000;decide),?_,fun W hW k x hx=>by simp at hx⟩
 ·show(opHead (gO k p)++(dw 8 0++[])).length+kF mY+8*fr.length≤50000000
  rw[aa,jX];have e1:(gO k p).cW.length=p.length:=rfl;have e2:(gO k p).data.length=0:=rfl;have e3:(dw 8 0++[]).length=8:=by simp[dD]
  have e4:kF mY=0:=rfl;omega
 show true=qz (xM k p) 6 (fun _=>true);unfold qz xM;simp[h3]
theorem NQ{w:ag}(mx:dM w)(pow:iz w){ao:Option aM}{c:Nat}{L:List cO}(hS:gZ w w.heap.size ao L)(s n:Nat)(hL:L.length≤1000∧∀r∈L,r.length≤1000)(h0:qE s n L=0):
  au prog 12 #[.i s,.i n,.slice ao L.length c] w fun e w'=>cE w w'∧∃A:MA,e=.returned (.tuple #[.p A.mb,.I])∧cZ w w' A (cV.new s n L)∧∀b,A.Z b→w.heap.size≤b:=by
 refine(C3 (an _ w) mx pow (c:=c) hL.1 hL.2 hS s n).mono ?_;rintro e w' ⟨hb,⟨h1,_⟩|⟨_,A,he,hA,_,hz⟩⟩
 ·exact absurd h0 h1
 rw[aF,aF] at hA;exact⟨hb,{A with X:=fun _=>False},he,hA _ (fun _ e=>e.elim),hz⟩
theorem cV.Ok.done{m:cV}{N:Nat}(ok:m.Ok N)(hN:N≤1000000)(X:jA):(m.done X).1.Ok (N+1):=by
 unfold cV.done;by_cases h:Cl X=0
 ·rw[if_pos h]
  have h1:=(EE h).2.1;unfold mF at h1;simp only[Bool.and_eq_true] at h1;exact ok.apply hN (ox h1.1)
 rw[if_neg h];exact ok.mono cK
structure Bx where
 b:Nat
 t:TypeId
 cs:List aC
structure GS(w0 w:ag)(mb:Nat)(A:MA)(m:cV)(N:Nat)(L:List Bx)(S:List (Option aM×List Nat)):Prop where
 Mz:A.mb=mb
 gu:cZ w0 w A m
 ok:m.Ok N
 box:∀x∈L,w.heap[x.b]?=some (.cells x.cs.toArray x.t (0,0))∧¬A.Z x.b∧x.t≠40
 sts:∀x∈S,dK w (fun b=>¬A.Z b) x.1 x.2
section
variable{w0 w:World}{mb:Nat}{A:MA}{m:cV}{N:Nat}{L:List Bx}{S:List (Option Addr×List Nat)}
theorem GS.below(h:GS w0 w mb A m N L S){w':ag}(hb:cE w w'):GS w0 w' mb A m N L S:=
 ⟨h.Mz,h.gu.below hb,h.ok,fun x hx=>⟨(hb.block _ (lt_of_block (h.box x hx).1)).trans (h.box x hx).1,(h.box x hx).2⟩,fun x hx=>(h.sts x hx).below hb⟩
structure Eg(w':ag)(lo:Nat→Prop)(x:kH)(Z:List aC):Prop where
 len:Z.length=43
 one:(Z.toArray:Array aC).all (·.oneCell')=true
 err:Z[23]?=some (.i x.e)
 cW:Z[24]?=some (.s x.a.cW)
 parts:∃E R r L,Z=E++R++cU x.i r∧E.length=23∧R.length=13∧fQ w' BU (.agg R.toArray) x.e x.a x.r∧ez w' lo r L x.i
theorem GS.Yt(h:GS w0 w mb A m N L S)(hN:N≤1000000){X:jA}{e:aL}{w':ag}(hd:gp w0 w A (m.done X) e w'):
  ∃Z va vc ov C,e=.returned (.agg Z.toArray)∧Eg w' (fun b=>w.heap.size≤b∧¬(A.GG va vc ov C).Z b) (m.done X).2 Z∧GS w0 w' mb (A.GG va vc ov C) (m.done X).1 (N+1) L S∧cQ A.Z w w'∧(∀b,b<w.heap.size→(A.GG va vc ov C).Z b→A.Z b):=by
 obtain⟨E,R,r,Lr,rfl,hE,hone,hl,hR,hI,⟨va,vc,ov,C,hst,DE⟩,hk⟩:=hd;have hold:∀b,b<w.heap.size→(A.GG va vc ov C).Z b→A.Z b:=fun b hb e=>by
  rcases e with e|e|e|e|e|e
  ·exact .inl e
  ·exact .inr (.inl e)
  ·exact .inr (.inr (.inl e))
  ·exact .inr (.inr (.inr (.inl e)))
  ·exact .inr (.inr (.inr (.inr (.inl e))))
  rcases DE b e with h1|h1
  ·exact A.zo h1
  omega
 refine⟨E++R++cU (m.done X).2.i r,va,vc,ov,C,rfl,⟨?_,vY hone (qV hR),?_,?_,E,R,r,Lr,rfl,hE,hl,hR.mono (fun _ _=>trivial),hI.mono (fun b hb=>⟨hb.1,fun e=>?_⟩)⟩,⟨h.Mz,hst,h.ok.done hN X,fun x hx=>?_,fun x hx=>?_⟩,hk,hold⟩
 ·rw[aa,aa,hE,hl]
  rfl
 ·rw[aE (by rw[aa,hE,hl];decide),aA (by rw[hE];decide),hE]
  exact C7 hR
 ·rw[aE (by rw[aa,hE,hl];decide),aA (by rw[hE];decide),hE]
  obtain⟨rr,ka,kc,pa,pc,h1,_⟩:=hR
  injection h1 with h1
  have h2:R=eL (m.done X).2.e (m.done X).2.a.cW rr ka (m.done X).2.a.kids.length kc pa (m.done X).2.r.length pc:=by simpa using congrArg Array.toList h1
  rw[h2];rfl
 ·have dB:w.heap.size≤b:=hb.1
  have hz:∀c,A.Z c→c≠b:=fun c hc=>by have:=h.gu.ze hc;omega
  rcases e with e|e|e|e|e|e
  ·exact hz _ A.zm e.symm
  ·exact hz _ A.zk e.symm
  ·exact hz _ A.zs e.symm
  ·exact hz _ A.zg e.symm
  ·exact hz _ (A.zt e) rfl
  exact hb.2 _ hst.cells.2.2.2.2.2.2 e
 ·obtain⟨h1,h2,h3⟩:=h.box x hx
  exact⟨hk.same h1 h2,fun e=>h2 (hold _ (lt_of_block h1) e),h3⟩
 have h1:=(h.sts x hx).mono (lo':=fun b=>¬A.Z b∧b<w.heap.size) (fun b h1 h2=>⟨h2,h1⟩);exact(h1.kept hk (fun b hb _ e=>hb.1 e)).mono (fun b _ hb e=>hb.1 (hold b hb.2 e))
theorem GS.done(h:GS w0 w mb A m N L S)(hN:N≤1000000){X:jA}{e:aL}{w':ag}(hd:gp w0 w A (m.done X) e w'):
  ∃Z A',e=.returned (.agg Z.toArray)∧Eg w' (fun b=>w.heap.size≤b∧¬A'.Z b) (m.done X).2 Z∧GS w0 w' mb A' (m.done X).1 (N+1) L S∧cQ A.Z w w'∧(∀b,b<w.heap.size→A'.Z b→A.Z b):=by
 obtain⟨Z,va,vc,ov,C,h1⟩:=h.Yt hN hd;exact⟨Z,_,h1⟩
theorem GS.push(h:GS w0 w mb A m N L S){w':ag}(hb:cE w w'){n:Nat}(hn:w.heap.size≤n){t:TypeId}{cs:List aC}(hk:w'.heap[n]?=some (.cells cs.toArray t (0,0)))(ht:t≠40):GS w0 w' mb A m N (L++[⟨n,t,cs⟩]) S:=by
 have h1:=h.below hb;refine⟨h1.Mz,h1.gu,h1.ok,fun x hx=>?_,h1.sts⟩;rcases List.mem_append.1 hx with hx|hx
 ·exact h1.box x hx
 simp at hx;subst hx;exact⟨hk,fun e=>by have:=h.gu.ze (show A.Z n from e);omega,ht⟩
theorem GS.call(h:GS w0 w mb A m N L S)(hN:N≤80000){X:jA}{o:di}{i:ei}{Li:List dr}{fa:Option aM}{fc:Nat}(hX:pV w X o i Li fa)(hM:ki w o X.oP):
  au prog 13 #[.p mb,.agg (X.cells o i fa fc).toArray] w (gp w0 w A (m.done X)):=by
 have:=Tu h.gu h.ok hN (fc:=fc) hX hM
 rwa [h.Mz] at this
theorem GS.xY(h:GS w0 w mb A m N L S){a:Option aM}{V:List Nat}(ha:dK w (fun b=>¬A.Z b) a V):GS w0 w mb A m N L (S++[(a,V)]):=⟨h.Mz,h.gu,h.ok,h.box,fun x hx=>by
 rcases List.mem_append.1 hx with hx|hx
 ·exact h.sts x hx
 ·simp at hx
  subst hx;exact ha⟩
theorem GS.cell(h:GS w0 w mb A m N L S){k:Nat}{x:Bx}(hx:L[k]?=some x){j:Nat}{v:aC}(hv:x.cs[j]?=some v):w.cell? ⟨x.b,j,none⟩=some v:=by
 rw[aG _ _ j _ x.t (0,0) (h.box x (aN hx)).1];simpa using hv
theorem GS.range(h:GS w0 w mb A m N L S){k:Nat}{x:Bx}(hx:L[k]?=some x):w.rangeAt x.b 0 x.cs:=dJ (h.box x (aN hx)).1
end
theorem Eg.eu{w':ag}{lo:Nat→Prop}{x:kH}{Z:List aC}(h:Eg w' lo x Z):∃r L,Z[36]?=some (.i x.i.ew)∧Z[37]?=some (.v x.i.seq)∧Z[40]?=some (.slice r.sa x.i.de.length r.sc)∧ez w' lo r L x.i:=by
 obtain⟨E,R,r,L,rfl,hE,hR,_,hI⟩:=h.parts;have e:∀k,(E++R++cU x.i r)[36+k]?=(cU x.i r)[k]?:=fun k=>by
  rw[aA (by rw[aa,hE,hR];omega),aa,hE,hR,show 36+k - (23+13)=k by omega]
 exact⟨r,L,e 0,e 1,e 4,hI⟩
theorem pP(w:ag)(Z:List aC)(hl:Z.length=43):∃wa wb,wa=w.alloc (.cells #[.B,.U,.U,.I,.U,.B,.z,.n,.I,.F,.F,.n,.I,.V,.I,.V,.n,.n,.U,.I,.I,.V,.n,.I,.z,.n,.U,.U,.U,.I,.U,.V,.V,.V,.n,.n,.I,.V,.I,.V,.n,.n,.U] 49)∧wb=wa.setCells w.heap.size 0 Z∧wb.heap[w.heap.size]?=some (.cells Z.toArray 49 (0,0))∧cE w wb∧
  wa.there w.heap.size 0 Z.toArray.size∧(prog.info? 49).map (·.size)=some Z.toArray.size:=by
 have ka:=aD w (.cells #[.B,.U,.U,.I,.U,.B,.z,.n,.I,.F,.F,.n,.I,.V,.I,.V,.n,.n,.U,.I,.I,.V,.n,.I,.z,.n,.U,.U,.U,.I,.U,.V,.V,.V,.n,.n,.I,.V,.I,.V,.n,.n,.U] 49);have e:Z.toArray.size=43:=by simpa using hl
 refine⟨_,_,rfl,rfl,gq ka hl,jc (w1:=w) (cT (an _ w) _) 0 _ (aj _),?_,?_⟩
 ·rw[e]
  exact ey ka 0 43 cM
 rw[e]
 kernel_rfl
theorem DY(w:ag)(Z:List aC)(hl:Z.length=23):∃wa wb,wa=w.alloc (.cells #[.B,.U,.U,.I,.U,.B,.z,.n,.I,.F,.F,.n,.I,.V,.I,.V,.n,.n,.U,.I,.I,.V,.n] 42)∧wb=wa.setCells w.heap.size 0 Z∧wb.heap[w.heap.size]?=some (.cells Z.toArray 42 (0,0))∧cE w wb∧
  wa.there w.heap.size 0 Z.toArray.size∧(prog.info? 42).map (·.size)=some Z.toArray.size:=by
 have ka:=aD w (.cells #[.B,.U,.U,.I,.U,.B,.z,.n,.I,.F,.F,.n,.I,.V,.I,.V,.n,.n,.U,.I,.I,.V,.n] 42);have e:Z.toArray.size=23:=by simpa using hl
 refine⟨_,_,rfl,rfl,gq ka hl,jc (w1:=w) (cT (an _ w) _) 0 _ (aj _),?_,?_⟩
 ·rw[e]
  exact ey ka 0 23 cM
 rw[e]
 kernel_rfl
theorem xd{w w':ag}{x y:Nat}(h:w'=w.alloc (.cells #[.v (x:Int),.v (y:Int)] 36)):dK w' (fun _=>True) (some ⟨w.heap.size,0,none⟩) [x,y]:=fun k v hk=>by
 have hl:w.heap.size<w'.heap.size:=by rw[h];simp
 refine⟨w.heap.size,0,rfl,trivial,hl,?_⟩;rw[h,aG _ _ _ _ 36 (0,0) (aD w _)]
 match k,hk with
 |0,hk=>simp at hk;subst hk;rfl
 |1,hk=>simp at hk;subst hk;rfl
 |k+2,hk=>simp at hk
theorem Ot{w0 w:ag}{A:MA}{m:cV}(h:cZ w0 w A m){s:Nat}(hs:0<s)(ho:m.own.map (·.seq)=[s]):(A.oA m 0).length=1:=by
 have hl:=h.EX;have h1:m.own.length=1:=by have:=congrArg List.length ho;simpa using this
 obtain⟨x,hx⟩:∃x,A.Ql m=[x]:=by
  match hI:A.Ql m with
  |[x]=>exact⟨x,rfl⟩
  |[]=>rw[hI,h1] at hl;cases hl
  |_::_::_=>rw[hI,h1] at hl;simp at hl
 have h2:x.1.seq=s:=by
  obtain⟨c,g1,_⟩:=vJ (A:=A) (m:=m) (i:=0) (x:=x) (by rw[hx];rfl);have g2:(m.own.map (·.seq))[0]?=some x.1.seq:=by rw[List.getElem?_map,g1];rfl
  rw[ho] at g2;simpa using g2.symm
 unfold MA.oA ij;rw[hx];simp[h2,hs]
theorem vF{D:cO}:∀{Ds:List cO},D∈Ds→D.length≤Ds.flatten.length
 |[],h=>by cases h
 |E::Ds,h=>by
  rw[List.flatten_cons,aa];rcases List.mem_cons.1 h with rfl|h
  ·omega
  ·have:=vF h;omega
theorem R8{w:ag}{lo:Nat→Prop}{r:di}{o:fh}(h:fo w lo r o)(h2:(0≤o.kind∧o.kind<256)∧-9223372036854775808≤o.gW∧o.gW<9223372036854775808){D:cO}{S:cO}(hD:D=opHead o++S)(hl:D.length≤4000000000):IsO o:=by
 have e:D.length=(opHead o).length+S.length:=by rw[hD,aa]
 rw[jX] at e;exact⟨h2.1,by unfold IsT;omega,by unfold IsT;omega,h2.2⟩
theorem qJ.code{w:ag}:∀{n:Nat} {r:di} {D:cO},qJ w n r D→D.length≤4000000000→rS n D
 |0,_,_,h,_=>h
 |n+1,r,D,h,hl=>by
  obtain⟨o,Ds,h1,h2,h3,h4,h5⟩:=h;have e:D.length=(opHead o).length+(8+Ds.flatten.length):=by rw[h3];simp only[aa,dD]
  have hp:∀E∈Ds,0<E.length:=fun E hE=>by
   obtain⟨k,hk⟩:=aK.1 hE;obtain⟨_,_,_,_,_,_,g⟩:=h5 k E hk;exact g.pos
  have hf:=AQ hp;refine⟨o,Ds,R8 h1 h2 h3 hl,by rw[←h4];exact h3,by omega,fun E hE=>?_⟩;obtain⟨k,hk⟩:=aK.1 hE;obtain⟨_,_,_,_,_,_,g⟩:=h5 k E hk;have:=vF hE;exact g.code cK
theorem Pz(E:List gm):E.length≤jG E:=by
 unfold jG
 induction E with
 |nil=>exact aj _
 |cons e E ih=>
  rw[List.map_cons,List.sum_cons,List.length_cons];omega
theorem pV.isX{w:ag}{X:jA}{o:di}{i:ei}{L:List dr}{fa:Option aM}(h:pV w X o i L fa)(h4:X.kind≠4):IsX X:=by
 obtain⟨n,hop⟩:=h.op;have hs:=h.size;have he:=Pz X.eu.dF;unfold kF at hs;exact⟨h.num.kind,h.num.oE,h.num.req,h.num.os,h.num.on,⟨n,hop.code cK⟩,h.num.dy,h.num.dO,h.num.ep,⟨by omega,h.fr.u64⟩,fun e=>absurd e h4,h.num.ew,h.num.OZ,h.eu.seq,h.eu.ep,⟨by omega,h.eu.de.u64⟩,by omega,h.eu.cl⟩
def pS:cO:=[47,115]
def rg0:cV:=cV.new 0 2 [pR,pS]
end
theorem Tq{e:gm}(h:oh e):oN e=true:=by
 have h1:=h.cW;have h2:=h.node.data;have h3:=h.node.os;have h4:ou e.node.num.os=true:=by unfold ou;simp;exact h3
 have h5:(!e.gone||FX e.node)=true:=by
  cases hg:e.gone with
  |false=>rfl
  |true=>rw[h.gone hg];decide
 unfold oN;rw[decide_eq_true h1,decide_eq_true h2,h4,h5];rfl
theorem Sd{x:fW}(h:qK x):tX x=true:=by
 have h8:(List.range x.dF.length).any (fun k=>!oN (x.dF.getD k ⟨[],false,iQ⟩))=false:=by
  rw[List.any_eq_false];intro k hk;have hk:=List.mem_range.1 hk;have e:x.dF.getD k ⟨[],false,iQ⟩=x.dF[k]:=by simp[List.getD,af hk]
  rw[e,Tq (h.dF.2 _ (List.getElem_mem hk))]
  decide
 unfold tX;rw[decide_eq_true h.ew.1,decide_eq_true h.ew.2,decide_eq_true h.dO.1,decide_eq_true h.dO.2,decide_eq_true h.de.1,decide_eq_true h.dF.1,h8];rfl
def wQ(x:fW):jA:=ac8 (gX 4 (gO 0 []) 0 []) x
theorem Bq:∀{E:List gm},(∀e∈E,oh e)→jG E≤194*E.length
 |[],_=>by simp[jG]
 |e::E,h=>by
  have h1:=Bq (E:=E) (fun x hx=>h x (List.mem_cons_of_mem _ hx));have h2:=(h e aO).cW;have h3:=(h e aO).node.data;unfold jG at h1⊢;rw[List.map_cons,List.sum_cons,List.length_cons];omega
theorem Hv(x:fW):jg (wQ x)=dw 1 4++(jl x++[]):=rfl
theorem Wd{x:fW}(h:qK x):(jg (wQ x)).length≤4096:=by
 rw[Hv,aa,dD,List.append_nil];have h1:=Dy x;have h2:=Bq h.dF.2;have h3:=h.dF.1;have h4:=h.de.1;unfold kF at h1;omega
theorem Sg{x:fW}(h:qK x):yl (jg (wQ x))=(kK [],{fV.zero 4 with eu:=x})∧(⟨jg (wQ x),false⟩:Rd).num 1=4:=by
 rw[Hv];obtain⟨a,b⟩:=EA 1 4 (jl x++[]) cL;obtain⟨c,d⟩:=Vm (x:=x) (s:=[]) h;refine⟨?_,a⟩;unfold yl;unfold kK at a b c d⊢;rw[a,b];show iR (⟨jl x++[],false⟩,fV.zero 4) .item=_;unfold iR;show((⟨jl x++[],false⟩:Rd).item,{fV.zero 4 with eu:=(⟨jl x++[],false⟩:Rd).qB})=_;rw[c,d]
theorem Wc{x:fW}(h:qK x):Cl (wQ x)=0∧eM (zJ (wQ x))={fV.zero 4 with eu:=x}:=by
 obtain⟨h1,h2⟩:=Sg h;have h3:eM (jg (wQ x))={fV.zero 4 with eu:=x}:=by unfold eM;rw[h1]
 have hm:OI (wQ x)=true:=by
  show(kindOk 4&&!([Pt.item].any fun p=>!p.may (wQ x)))=true;have:Pt.item.may (wQ x)=true:=Sd h;simp[this,kindOk]
 have hr:kM (jg (wQ x))=true:=by
  unfold kM;rw[h2,h1];show(kindOk 4&&decide (Br (kK [])=0))=true
  decide
 have hs:Am (wQ x) (eM (jg (wQ x))).x=true:=by
  rw[h3];unfold Am;exact decide_eq_true rfl
 have hl:=Wd h;have e0:Cl (wQ x)=0:=by
  unfold Cl;rw[if_neg (by rw[hm];decide),if_neg (by rw[hr,hs];decide),if_neg cK]
 refine⟨e0,?_⟩;unfold zJ;rw[if_pos e0,h3]
theorem MI(m:cV){x:fW}(h:qK x):m.done (wQ x)=m.take x:=by
 obtain⟨h1,h2⟩:=Wc h;unfold cV.done;rw[if_pos h1,h2];rfl
def CW(b:cV)(L:List fW):cV:=L.foldl (fun m x=>m.kz x) b
def yJ:cV:=cV.new 1 2 [pR,pS]
theorem zV(b:cV)(L:List fW)(x:fW):CW b (L++[x])=(CW b L).kz x:=by
 unfold CW;rw[List.foldl_append];rfl
theorem Jz(m:cV)(x:fW):(m.kz x).dy=m.dy:=by unfold cV.kz;dsimp only;split<;>rfl
theorem JA(m:cV)(x:fW):(m.kz x).dP=m.dP:=by unfold cV.kz;dsimp only;split<;>rfl
theorem Mb(m:cV)(x:fW):(m.kz x).v=lF m.v x.ew.toNat:=by unfold cV.kz;dsimp only
theorem zW(L:List fW):∀b:cV,(CW b L).dy=b.dy∧(CW b L).dP=b.dP:=by
 induction L with
 |nil=>exact fun b=>⟨rfl,rfl⟩
 |cons x L ih=>
  intro b;have:=ih (b.kz x);rw[Jz,JA] at this;exact this
structure jM(a:cV):Prop where
 dy:a.dy=0
 dP:a.dP=[pR,pS]
 v:a.v=[a.own.length,0]
 tok:∀t∈a.toks,t.held=true→0<t.ep
 eC:(CW yJ a.own).eC=a.eC
 bv:(CW yJ a.own).v=[a.own.length,0]
 tks:∀(j:Nat) x,a.own[j]?=some x→(CW yJ (a.own.take j)).takes x=true
theorem jM.start:jM rg0:=⟨rfl,rfl,rfl,(fun t ht h=>by
 have:t∈[iM,iM]:=ht;simp at this;subst this;cases h),rfl,rfl,(fun j x hx=>by cases hx)⟩
section
variable{a:cV}
theorem jM.same(h:jM a){a1:cV}(h1:a1.dy=a.dy)(h2:a1.dP=a.dP)(h3:a1.own=a.own)(h4:a1.v=a.v)(h5:a1.eC=a.eC)(h6:∀t∈a1.toks,t.held=true→0<t.ep):jM a1:=
 ⟨h1.trans h.dy,h2.trans h.dP,by rw[h4,h3];exact h.v,h6,by rw[h3,h5];exact h.eC,by rw[h3];exact h.bv,by rw[h3];exact h.tks⟩
theorem jM.make(h:jM a){a1:cV}(h1:a1.dy=a.dy)(h2:a1.dP=a.dP)(h3:a1.own=a.own)(h4:a1.v=a.v)(h6:a1.toks=a.toks)(x:fW)(ht:(CW yJ a.own).takes (a1.item x)=true)(h5:((CW yJ a.own).kz (a1.item x)).eC=a1.eC):jM (a1.make x):=by
 have ho:(a1.make x).own=a.own++[a1.item x]:=by show a1.own++_=_;rw[h3]
 have hl:(a1.make x).own.length=a.own.length+1:=by rw[ho,aa];rfl
 refine⟨h1.trans h.dy,h2.trans h.dP,?_,?_,?_,?_,?_⟩
 ·show lF a1.v a1.dy=_
  rw[h4,h1,h.dy,h.v,hl];rfl
 ·show∀t∈a1.toks,_
  rw[h6];exact h.tok
 ·rw[ho,zV,h5]
  rfl
 ·rw[hl,ho,zV,Mb,h.bv]
  show lF _ ((a1.dy:Int)).toNat=_;rw[h1,h.dy];rfl
 rw[ho];intro j y hy;rcases aJ j a.own.length with hj|hj
 ·rw[aE hj] at hy
  rw[List.take_append_of_le_length cK];exact h.tks j y hy
 rw[aA hj] at hy;have hj0:j - a.own.length=0:=by
  have:=(aB.1 hy).1;simp at this;omega
 rw[hj0] at hy;simp at hy;subst hy;have e:j=a.own.length:=by omega
 subst e;rw[List.take_left];exact ht
theorem jM.rO(h:jM a){N:Nat}(ok:a.Ok N){r:Nat}(hr:(a.tok r).held=true)(o:mH)(dh:eF):jM (a.rO r o dh):=by
 unfold cV.rO;split
 ·exact h
 rename_i hx
 have hk:r<a.toks.length:=by
  rcases aJ r a.toks.length with h1|h1
  ·exact h1
  unfold cV.tok at hr;rw[List.getD,List.getElem?_eq_none h1] at hr;cases hr
 have sO:0<(a.tok r).ep:=h.tok _ (by unfold cV.tok;rw[List.getD,af hk];exact List.getElem_mem hk) hr;have hr2:r<2:=by
  have:=ok.kl;rw[h.dP] at this;simp at this;omega
 have hrl:r<a.dP.length:=by rw[h.dP];exact hr2
 obtain⟨hs,hg⟩:=zW a.own yJ;have hroot:(CW yJ a.own).cP r=a.cP r:=by unfold cV.cP;rw[hg,h.dP];rfl
 have adL:(CW yJ a.own).dQ r=a.dQ r:=by unfold cV.dQ;rw[h.eC]
 have hat:(CW yJ a.own).cS r=a.cS r:=by unfold cV.cS;rw[h.eC]
 have hf:dU (a.cP r) (a.dQ r) (a.rN r o dh)=(0,IB (a.cP r) (a.dQ r) (a.cS r) dh 0 o):=Fw (ok.tree r hrl).inv;have Qm:a.v.getD a.dy 0=a.own.length:=by rw[h.v,h.dy];rfl
 refine jM.make (a:=a) h (a1:=a.eA r (a.cS r+1,IB (a.cP r) (a.dQ r) (a.cS r) dh 0 o)) rfl rfl rfl rfl rfl _ ?_ ?_
 ·have e1:((a.eA r (a.cS r+1,IB (a.cP r) (a.dQ r) (a.cS r) dh 0 o)).item (a.qu r (a.rN r o dh)))=⟨0,a.own.length+1,r,(a.tok r).ep,[a.own.length,0],a.rN r o dh,0⟩:=by
   show(⟨(a.dy:Int),a.v.getD a.dy 0+1,r,(a.tok r).ep,a.v,a.rN r o dh,0⟩:fW)=_;rw[Qm,h.dy,h.v];rfl
  rw[e1];unfold cV.takes cV.mA cV.ready;dsimp only;rw[h.bv,hg,hs];rw[show(r:Int).toNat=r by omega,hroot,adL,hf];have e2:kI [a.own.length,0] [a.own.length,0]=true:=xB _;have e3:yJ.dP.length=2:=rfl;have e4:yJ.dy=1:=rfl;rw[e2,e3,e4];have e5:decide ((r:Int)<((2:Nat):Int))=true:=by simp;omega
  have e6:decide ((0:Int)≤(r:Int))=true:=by simp
  have e7:decide ((r:Int)=-1)=false:=decide_eq_false cK;rw[e5,e6,e7];simp[sO,hx]
 show((CW yJ a.own).kz ⟨_,_,(r:Int),_,_,a.rN r o dh,0⟩).eC=_;unfold cV.kz;dsimp only;rw[if_neg cL];show((CW yJ a.own).eC.set _ _)=a.eC.set r _;rw[show(r:Int).toNat=r by omega,hroot,adL,hat,hf,h.eC]
theorem jM.asked(h:jM a){N:Nat}(ok:a.Ok N)(r:Nat)(o:mH)(dh:eF):jM (a.asked r o dh).1:=by
 unfold cV.asked;split
 ·exact h
 rename_i hr
 exact h.rO ok (by simpa using hr) o dh
theorem Ah{a:cV}{r:Nat}{t x:jK}(h:x∈(a.tT r t).toks):x∈a.toks∨x=t:=List.mem_or_eq_of_mem_set h
theorem jM.apply(h:jM a){N:Nat}(ok:a.Ok N){y:fV}(h4:y.kind≠4):jM (a.apply y).1:=by
 unfold cV.apply;split
 ·unfold cV.write
  split
  ·exact h
  split
  ·exact h
  split
  ·exact h
  exact h.asked ok _ _ _
 ·unfold cV.opens
  split
  ·exact h
  exact h.same rfl rfl rfl rfl rfl h.tok
 ·unfold cV.lI
  split
  ·exact h
  rename_i hc
  have hl:a.live y.on=true:=by
   cases hl:a.live y.on with
   |true=>rfl
   |false=>exact absurd (.inr hl) hc
  have hon:0<y.on:=by
   unfold cV.live tA at hl;simp only[Bool.and_eq_true,decide_eq_true_eq] at hl;omega
  have Qm:a.v.getD a.dy 0=a.own.length:=by rw[h.v,h.dy];rfl
  obtain⟨hs,hg⟩:=zW a.own yJ;refine jM.make (a:=a) h (a1:=a.jS (a.dy,y.on)) rfl rfl rfl rfl rfl _ ?_ ?_
  ·have e1:(a.jS (a.dy,y.on)).item (cV.oD y.on)=⟨0,a.own.length+1,-1,0,[a.own.length,0],[],y.on⟩:=by
    show(⟨(a.dy:Int),a.v.getD a.dy 0+1,-1,0,a.v,[],y.on⟩:fW)=_;rw[Qm,h.dy,h.v];rfl
   rw[e1];unfold cV.takes cV.mA cV.ready;dsimp only;rw[h.bv,hg,hs];have e2:kI [a.own.length,0] [a.own.length,0]=true:=xB _;have e3:yJ.dP.length=2:=rfl;have e4:yJ.dy=1:=rfl;rw[e2,e3,e4];have e7:¬(y.on=0):=by omega
   simp[hon,e7]
  show((CW yJ a.own).kz ⟨_,_,_,_,_,_,y.on⟩).eC=_;unfold cV.kz;dsimp only;rw[if_pos hon];exact h.eC
 ·rename_i hk
  exact absurd hk h4
 ·unfold cV.Va
  split
  ·exact h
  split
  ·exact h
  rename_i hq
  split
  ·exact h
  refine h.same rfl rfl rfl rfl rfl (fun t ht hh=>?_);rcases Ah ht with h1|rfl
  ·exact h.tok t h1 hh
  show 0<y.ep;have:¬y.ep≤(a.tok y.dO.toNat).ep:=fun e=>hq (.inr e)
  omega
 ·unfold cV.Ep
  split
  ·exact h
  split
  ·exact h
  refine h.same rfl rfl rfl rfl rfl (fun t ht hh=>?_);rcases Ah ht with h1|rfl
  ·exact h.tok t h1 hh
  cases hh
 ·unfold cV.tU
  split
  ·exact h
  split
  ·exact h
  rename_i hr
  split
  ·exact h
  exact h.rO ok (by simpa using hr) _ _
 exact h
def sP(a:cV)(j:Nat):cV:=CW yJ (a.own.take j)
theorem Io{j:Nat}{x:fW}(hx:a.own[j]?=some x):sP a (j+1)=(sP a j).kz x:=by
 unfold sP;rw[List.take_add_one,hx];exact zV _ _ _
theorem WL:sP a a.own.length=CW yJ a.own:=by
 unfold sP;rw[List.take_length]
theorem jM.bj(h:jM a){N:Nat}(ok:a.Ok N):∀j,j≤a.own.length→(sP a j).v=[j,0]
 |0,_=>rfl
 |j+1,hj=>by
  obtain⟨x,hx⟩:∃x,a.own[j]?=some x:=⟨_,af cK⟩;rw[Io hx,Mb,h.bj ok j cK,(ok.own j x hx).1,h.dy];rfl
theorem jM.takes(h:jM a){N:Nat}(ok:a.Ok N){j:Nat}{x:fW}(hx:a.own[j]?=some x):(sP a j).done (wQ x)=(sP a (j+1),⟨0,lX,[],x⟩):=by
 rw[MI _ (ok.own j x hx).2.2,Io hx];unfold cV.take;rw[if_neg (by have:=h.tks j x hx;unfold sP;rw[this];decide)]
theorem jM.Xz(h:jM a){N:Nat}(ok:a.Ok N){j k:Nat}(hj:j≤a.own.length){x:fW}(hx:a.own[k]?=some x)(hk:k≠j):(sP a j).done (wQ x)=(sP a j,oI 62):=by
 rw[MI _ (ok.own k x hx).2.2];unfold cV.take;rw[if_pos];have hr:cV.ready x (sP a j).v=false:=by
  unfold cV.ready;rw[h.bj ok j hj,(ok.own k x hx).1,h.dy,(ok.own k x hx).2.1];have:decide (k+1 - 1=[j,0].getD ((0:Nat):Int).toNat 0)=false:=by
   show decide (k+1 - 1=j)=false;simp;exact hk
  rw[this];simp
 unfold cV.takes;rw[hr];simp
end
theorem jM.done{a:cV}(h:jM a){N:Nat}(ok:a.Ok N){X:jA}(h4:Cl X=0→(eM (zJ X)).kind≠4):jM (a.done X).1:=by
 unfold cV.done;split
 ·rename_i h0
  exact h.apply ok (h4 h0)
 exact h
section
open Go.RowKit Go.Shelf Go.MapKept Go.ChangeMaps
theorem Gg{w0 w:ag}(bl:cE w0 w)(mx:dM w0)(pow:iz w0){ao:Option aM}{c:Nat}{L:List cO}(hS:gZ w w.heap.size ao L)(s n:Nat)(hL:L.length≤1000∧∀r∈L,r.length≤1000)(h0:qE s n L=0)(Y:Nat→Prop)(hY:∀b,Y b→w0.heap.size≤b∧b<w.heap.size):
  au prog 12 #[.i s,.i n,.slice ao L.length c] w fun e w'=>cE w w'∧∃A:MA,e=.returned (.tuple #[.p A.mb,.I])∧A.X=Y∧cZ w0 w' A (cV.new s n L)∧∀b,A.Z b→w.heap.size≤b:=by
 refine(C3 bl mx pow (c:=c) hL.1 hL.2 hS s n).mono ?_;rintro e w' ⟨hb,⟨h1,_⟩|⟨_,A,he,hA,_,hz⟩⟩
 ·exact absurd h0 h1
 rw[aF,aF] at hA;exact⟨hb,{A with X:=Y},he,rfl,hA Y hY,hz⟩
theorem cZ.Ik{w0 w w':ag}{A:MA}{m:cV}(h:cZ w0 w A m){S:Nat→Prop}(hk:cQ S w w')(hu:jL w w')(hS:∀b,S b→A.X b∧kj w b){Y:Nat→Prop}(hY:∀b,Y b→A.X b∨w.heap.size≤b)(hlt:∀b,Y b→b<w'.heap.size):
  cZ w0 w' {A with X:=fun b=>A.X b∨Y b} m:=by
 have h':=h.vV hk hu hS;have hl:∀b,b<w.heap.size→A.lo b→({A with X:=fun b=>A.X b∨Y b}:MA).lo b:=fun b hb hlo=>⟨hlo.1,fun e=>by
  rcases e with e|e
  ·exact hlo.2 e
  rcases hY b e with e|e
  ·exact hlo.2 e
  omega⟩
 have hz:∀b,A.Z b→¬S b:=fun b hb hs=>(h.xz b (hS b hs).1).1 hb
 have hn:∀b,({A with X:=fun b=>A.X b∨Y b}:MA).lo b→b<w.heap.size→¬S b:=fun b hb _ hs=>hb.2 (.inl (hS b hs).1)
 have hd:=(h.data.mono hl).iN hk hu hn;have ht:=(h.tok.more hl).kept hk (hz _ A.zk) (fun b hb hs=>hb.2 (.inl (hS b hs).1));refine⟨h'.blk,⟨hd.dP,hd.row,hd.v,hd.eu⟩,h'.tl,h'.tr,h'.nd,ht,h'.xk,h'.own,h'.oq,h'.cl,h'.kd,h'.lo,fun b e=>?_,h'.pow,h'.mx,h'.bl,⟨h'.mG.lt,h'.mG.tr,h'.mG.eu⟩⟩;rcases e with e|e
 ·exact h'.xz b e
 rcases hY b e with e2|e2
 ·exact h'.xz b e2
 exact⟨fun z=>by have:=h.ze z;omega,by have:=h.bl.size;omega,hlt b e⟩
structure pU(w0 w:ag)(mb:Nat→Nat)(M:Nat→cV)(N n:Nat)(A:Nat→MA):Prop where
 gs:∀i,i<n→GS w0 w (mb i) (A i) (M i) N [] []
 ap:∀i j,i<n→j<n→i≠j→∀k,(A i).Z k→(A j).X k
section
variable{w0 w:World}{mb:Nat→Nat}{M:Nat→cV}{N n:Nat}{A:Nat→MA}
theorem GS.more{b:Nat}{B:MA}{m:cV}(h:GS w0 w b B m N [] []){N':Nat}(hN:N≤N'):GS w0 w b B m N' [] []:=⟨h.Mz,h.gu,h.ok.mono hN,h.box,h.sts⟩
theorem pU.below(h:pU w0 w mb M N n A){w':ag}(hb:cE w w'):pU w0 w' mb M N n A:=⟨fun i hi=>(h.gs i hi).below hb,h.ap⟩
theorem pU.more(h:pU w0 w mb M N n A){N':Nat}(hN:N≤N'):pU w0 w mb M N' n A:=⟨fun i hi=>(h.gs i hi).more hN,h.ap⟩
theorem pU.Yu(h:pU w0 w mb M N n A){i:Nat}(hi:i<n)(hN:N≤1000000){X:jA}{e:aL}{w':ag}(hd:gp w0 w (A i) ((M i).done X) e w'):
  ∃Z A',e=.returned (.agg Z.toArray)∧Eg w' (fun b=>w.heap.size≤b) ((M i).done X).2 Z∧pU w0 w' mb (fun j=>if j=i then ((M i).done X).1 else M j) (N+1) n A'∧cQ (A i).Z w w'∧(∀k,(A' i).Z k→k<w.heap.size→(A i).Z k):=by
 obtain⟨Z,va,vc,ov,C,rfl,hz,hg,hk,hold⟩:=(h.gs i hi).Yt hN hd;have hu:=(h.gs i hi).gu.ku hk (fun b e=>e);refine⟨Z,fun j=>if j=i then (A i).GG va vc ov C else {A j with X:=fun b=>(A j).X b∨((A i).GG va vc ov C).Z b},rfl,⟨hz.len,hz.one,hz.err,hz.cW,?_⟩,⟨fun j hj=>?_,fun j l hj hl hjl k hk2=>?_⟩,hk,fun k h1 h2=>hold k h2 (by
  have e:(if i=i then (A i).GG va vc ov C else ({A i with X:=fun b=>(A i).X b∨((A i).GG va vc ov C).Z b}:MA)).Z k:=h1;rw[if_pos rfl] at e;exact e)⟩
 ·obtain⟨E,R,r,L,h1,h2,h3,h4,h5⟩:=hz.parts
  exact⟨E,R,r,L,h1,h2,h3,h4,h5.mono (fun b hb=>hb.1)⟩
 ·dsimp only
  by_cases e:j=i
  ·rw[if_pos e,if_pos e,e]
   exact hg
  rw[if_neg e,if_neg e];have g:=h.gs j hj;exact⟨g.Mz,g.gu.Ik hk hu (fun b hb=>⟨h.ap i j hi hj (fun e2=>e e2.symm) b hb,(h.gs i hi).gu.mz hb⟩) (fun b hb=>by
   rcases aJ b w.heap.size with hlt|hge
   ·exact .inl (h.ap i j hi hj (fun e2=>e e2.symm) b (hold b hlt hb))
   exact .inr hge) (fun b hb=>hg.gu.ze hb),g.ok.mono cK,(fun x hx=>by cases hx),(fun x hx=>by cases hx)⟩
 dsimp only at hk2⊢;by_cases ej:j=i
 ·rw[if_pos ej] at hk2
  rw[if_neg (fun e=>hjl (ej.trans e.symm))];exact .inr hk2
 rw[if_neg ej] at hk2;have xJ:(A j).Z k:=hk2;by_cases el:l=i
 ·rw[if_pos el]
  rw[el] at hjl;exact h.ap j i hj hi hjl k xJ
 rw[if_neg el];exact .inl (h.ap j l hj hl hjl k xJ)
theorem pU.done(h:pU w0 w mb M N n A){i:Nat}(hi:i<n)(hN:N≤1000000){X:jA}{e:aL}{w':ag}(hd:gp w0 w (A i) ((M i).done X) e w'):
  ∃Z A',e=.returned (.agg Z.toArray)∧Eg w' (fun b=>w.heap.size≤b) ((M i).done X).2 Z∧pU w0 w' mb (fun j=>if j=i then ((M i).done X).1 else M j) (N+1) n A'∧cQ (A i).Z w w':=by
 obtain⟨Z,A',h1,h2,h3,h4,_⟩:=h.Yu hi hN hd;exact⟨Z,A',h1,h2,h3,h4⟩
theorem pU.add(h:pU w0 w mb M N n A){w':ag}(hb:cE w w'){B:MA}{m:cV}(hB:cZ w0 w' B m)(hX:B.X=fun b=>∃j,j<n∧(A j).Z b)(hz:∀b,B.Z b→w.heap.size≤b)(ok:m.Ok N):
  ∃A',pU w0 w' (fun j=>if j=n then B.mb else mb j) (fun j=>if j=n then m else M j) N (n+1) A':=by
 refine⟨fun j=>if j=n then B else {A j with X:=fun b=>(A j).X b∨B.Z b},⟨fun j hj=>?_,fun j l hj hl hjl k hk2=>?_⟩⟩
 ·dsimp only
  by_cases e:j=n
  ·rw[if_pos e,if_pos e,if_pos e]
   exact⟨rfl,hB,ok,(fun x hx=>by cases hx),(fun x hx=>by cases hx)⟩
  rw[if_neg e,if_neg e,if_neg e];have g:=h.gs j cK;exact⟨g.Mz,g.gu.Ik (S:=fun _=>False) (dA hb) (lZ hb) (fun _ e=>e.elim) (fun b hb=>.inr (hz b hb)) (fun b hb=>hB.ze hb),g.ok,(fun x hx=>by cases hx),(fun x hx=>by cases hx)⟩
 dsimp only at hk2⊢;by_cases ej:j=n
 ·rw[if_pos ej] at hk2
  rw[if_neg (fun e=>hjl (ej.trans e.symm))];exact .inr hk2
 rw[if_neg ej] at hk2;have xJ:(A j).Z k:=hk2;by_cases el:l=n
 ·rw[if_pos el,hX]
  exact⟨j,by omega,xJ⟩
 rw[if_neg el];exact .inl (h.ap j l cK cK hjl k xJ)
theorem pU.one{m:cV}{B:MA}{b:Nat}(h:GS w0 w b B m N [] []):pU w0 w (fun _=>b) (fun _=>m) N 1 (fun _=>B):=⟨fun i hi=>h,fun i j hi hj hij=>by omega⟩
end
theorem aaP:Yq.Ok 0:=cV.Ok.new cL cL cL (fun r hr=>by
 simp at hr;subst hr
 decide+kernel)
theorem SW{w:ag}(mx:dM w)(pow:iz w):au prog 16 #[] w fun e w'=>e=.returned (.T)∧cE w w':=by
 obtain⟨w1,hw1⟩:∃a,a=w.alloc (.cells #[.string ⟨#[47,114]⟩] 9):=⟨_,rfl⟩;have dB:cE w w1:=by rw[hw1];exact cT (an _ w) _
 have hS:gZ w1 w1.heap.size (some ⟨w.heap.size,0,none⟩) [pR]:=fun k p hk=>by
  have h0:k=0:=by have:=(aB.1 hk).1;simp at this;omega
  subst h0;simp at hk;subst hk;exact⟨w.heap.size,0,rfl,by rw[hw1];simp,by rw[hw1];exact aG _ _ 0 _ 9 (0,0) (aD w _)⟩
 have HNW:Hid (au prog 12 #[.I,.i 2,.slice (some ⟨w.heap.size,0,none⟩) 1 1] w1 fun e w'=>cE w1 w'∧∃A:MA,e=.returned (.tuple #[.p A.mb,.I])∧cZ w1 w' A Yq∧∀b,A.Z b→w1.heap.size≤b):=cD (NQ (c:=1) (mx.kept dB) (jq pow dB) hS 0 2 ⟨by decide,fun r hr=>by simp at hr;subst hr;decide⟩ (gA.2.2.2.2.2.2.2.2.2.2.2));have nS:=cD (cC hw1 dB);have Cb:Hid (cG 42 23):=cD cJ;clear hS hw1 dB;go_enter func16,ntmps16
 go_wp2_with (first|rw[←nS.out.1]|fail)
 refine HNW.out.mono ?_;rintro e w2 ⟨dI,A0,rfl,hA,_⟩;obtain⟨mb,hmb⟩:∃n,n=A0.mb:=⟨_,rfl⟩;rw[←hmb];have hg:GS w1 w2 mb A0 Yq 0 [] []:=⟨hmb.symm,hA,aaP,(fun x hx=>by cases hx),(fun x hx=>by cases hx)⟩;obtain⟨wa3,w3,ha3,h3,k3,eO,Kr,hz3⟩:=DY w2 [.b 1,.U,.U,.I,.U,.b 1,.string ⟨#[47,114,47,97]⟩,.n,.I,.F,.F,.n,.I,.V,.I,.V,.n,.n,.U,.I,.I,.V,.n] rfl;have hg3:=hg.push eO (aj _) k3 cL;have HG0:=cD hg3;have XW:(([.b 1,.U,.U,.I,.U,.b 1,.string ⟨#[47,114,47,97]⟩,.n,.I,.F,.F,.n,.I,.V,.I,.V,.n,.n,.U,.I,.I,.V,.n]:List aC).toArray:Array aC).all (·.oneCell')=true:=by simp[aH]
 have HE3:=cD (cC ha3 (cC h3 (cC Kr (cC hz3 XW))));clear XW;clear hg dI hA hmb ha3 h3 k3 eO Kr hz3 hg3;go_upto_region 4 with fail
 go_upto_region 5 with (first
  |(rw[←HE3.out.1];refine ah rfl 42 (.tmp 3) (.tmp 22) rfl w2.heap.size 0 #[.b 1,.U,.U,.I,.U,.b 1,.string ⟨#[47,114,47,97]⟩,.n,.I,.F,.F,.n,.I,.V,.I,.V,.n,.n,.U,.I,.I,.V,.n] rfl rfl HE3.out.2.2.1 HE3.out.2.2.2.1 HE3.out.2.2.2.2 ?_;rw[←HE3.out.2.1])
  |fail)
 have HCa:Hid (au prog 13 #[.p mb,.agg #[.b 2,.U,.U,.I,.U,.B,.z,.n,.I,.F,.F,.n,.I,.V,.I,.V,.n,.n,.U,.I,.I,.V,.n]] w3 (gp w1 w3 A0 (Yq.done gXa))):=cD (HG0.out.call (X:=gXa) (o:=xM 0 []) (i:=gRI) (Li:=[]) (fa:=none) (fc:=0) cL (pN w3 2 0 [] 0 (fr:=[]) (fa:=none) (fun k v hk=>by simp at hk) cL cL cL cL cL (fun v hv=>by simp at hv)).1 (pN w3 2 0 [] 0 (fr:=[]) (fa:=none) (fun k v hk=>by simp at hk) cL cL cL cL cL (fun v hv=>by simp at hv)).2);go_wp2_with (first
  |fail)
 refine HCa.out.mono ?_;rintro e ua hd;obtain⟨Za,A1,rfl,hz,hg,_,_⟩:=GS.done (m:=Yq) HG0.out cL hd;obtain⟨va,wa,hv,hw,hk,jt,sA,hin⟩:=pP ua Za hz.len;have HZa:=cD hz;have HG1:=cD (hg.push jt (aj _) hk cL);have HEa:=cD (cC hv (cC hw (cC sA (cC hin hz.one))));clear hd hz hg hv hw hk jt sA hin HCa;go_upto_region 6 with (first
  |(rw[←HEa.out.1];refine ah rfl 49 (.tmp 4) (.tmp 25) rfl ua.heap.size 0 Za.toArray rfl rfl HEa.out.2.2.1 HEa.out.2.2.2.1 HEa.out.2.2.2.2 ?_;rw[aq,←HEa.out.2.1])
  |fail)
 have HRb:Hid (wa.rangeAt w2.heap.size 0 [.b 1,.U,.U,.I,.U,.b 1,.string ⟨#[47,114,47,97]⟩,.n,.I,.F,.F,.n,.I,.V,.I,.V,.n,.n,.U,.I,.I,.V,.n]):=cD (HG1.out.range (k:=0) rfl);have HCb:Hid (au prog 13 #[.p mb,.agg #[.b 1,.U,.U,.I,.U,.b 1,.string ⟨#[47,114,47,97]⟩,.n,.I,.F,.F,.n,.I,.V,.I,.V,.n,.n,.U,.I,.I,.V,.n]] wa (gp w1 wa A1 (gM1.done KM))):=cD (HG1.out.call (X:=KM) (o:=xM 1 Oe) (i:=gRI) (Li:=[]) (fa:=none) (fc:=0) cL (pN wa 1 1 Oe 0 (fr:=[]) (fa:=none) (fun k v hk=>by simp at hk) cL cL cL cL cL (fun v hv=>by simp at hv)).1 (pN wa 1 1 Oe 0 (fr:=[]) (fa:=none) (fun k v hk=>by simp at hk) cL cL cL cL cL (fun v hv=>by simp at hv)).2);go_wp2_with (first
  |(refine ay rfl 42 (.tmp 3) rfl w2.heap.size 0 rfl [.b 1,.U,.U,.I,.U,.b 1,.string ⟨#[47,114,47,97]⟩,.n,.I,.F,.F,.n,.I,.V,.I,.V,.n,.n,.U,.I,.I,.V,.n] _ HRb.out underlying42 rfl Cb.out ?_)
  |fail)
 refine HCb.out.mono ?_;rintro e ub hd;obtain⟨Zb,A2,rfl,hz,hg,_,_⟩:=GS.done (m:=gM1) HG1.out cL hd;obtain⟨vb,wb,hv,hw,hk,jt,sA,hin⟩:=pP ub Zb hz.len;have HZb:=cD hz;have HG2:=cD (hg.push jt (aj _) hk cL);have HEb:=cD (cC hv (cC hw (cC sA (cC hin hz.one))));clear hd hz hg hv hw hk jt sA hin HCb;go_upto_region 7 with (first
  |(rw[←HEb.out.1];refine ah rfl 49 (.tmp 5) (.tmp 28) rfl ub.heap.size 0 Zb.toArray rfl rfl HEb.out.2.2.1 HEb.out.2.2.2.1 HEb.out.2.2.2.2 ?_;rw[aq,←HEb.out.2.1])
  |fail)
 obtain⟨wr,hwr⟩:∃a,a=wb.alloc (.cells #[.V,.V] 36):=⟨_,rfl⟩;have hbr:cE wb wr:=by rw[hwr];exact cT (an _ _) _
 have hsr:dK wr (fun _=>True) (some ⟨wb.heap.size,0,none⟩) [0,0]:=xd hwr;have HWR:=cD hwr;have HGr:=cD (HG2.out.below hbr);clear hbr hwr;have HCc:Hid (au prog 13 #[.p mb,.agg #[.b 5,.U,.U,.I,.U,.B,.z,.n,.I,.F,.F,.n,.I,.V,.I,.V,.n,.n,.U,.I,.I,.v 1,.slice (some ⟨wb.heap.size,0,none⟩) 2 2]] wr (gp w1 wr A2 (gM2.done gXc))):=cD (HGr.out.call (X:=gXc) (o:=xM 0 []) (i:=gRI) (Li:=[]) (fa:=(some ⟨wb.heap.size,0,none⟩)) (fc:=2) cL (pN wr 5 0 [] 1 (fr:=[0,0]) (fa:=some ⟨wb.heap.size,0,none⟩) hsr cL cL cL cL cL (fun v hv=>by simp at hv;omega)).1 (pN wr 5 0 [] 1 (fr:=[0,0]) (fa:=some ⟨wb.heap.size,0,none⟩) hsr cL cL cL cL cL (fun v hv=>by simp at hv;omega)).2);clear hsr;go_wp2_with (first
  |(rw[←HWR.out])
  |fail)
 refine HCc.out.mono ?_;rintro e uc hd;obtain⟨Zc,A3,rfl,hz,hg,_,_⟩:=GS.done (m:=gM2) HGr.out cL hd;obtain⟨vc,wc,hv,hw,hk,jt,sA,hin⟩:=pP uc Zc hz.len;have HZc:=cD hz;have HG3:=cD (hg.push jt (aj _) hk cL);have HEc:=cD (cC hv (cC hw (cC sA (cC hin hz.one))));clear hd hz hg hv hw hk jt sA hin HCc;go_upto_region 8 with (first
  |(rw[←HEc.out.1];refine ah rfl 49 (.tmp 6) (.tmp 32) rfl uc.heap.size 0 Zc.toArray rfl rfl HEc.out.2.2.1 HEc.out.2.2.2.1 HEc.out.2.2.2.2 ?_;rw[aq,←HEc.out.2.1])
  |fail)
 have HRd:Hid (wc.rangeAt w2.heap.size 0 [.b 1,.U,.U,.I,.U,.b 1,.string ⟨#[47,114,47,97]⟩,.n,.I,.F,.F,.n,.I,.V,.I,.V,.n,.n,.U,.I,.I,.V,.n]):=cD (HG3.out.range (k:=0) rfl);have HCd:Hid (au prog 13 #[.p mb,.agg #[.b 1,.U,.U,.I,.U,.b 1,.string ⟨#[47,114,47,97]⟩,.n,.I,.F,.F,.n,.I,.V,.I,.V,.n,.n,.U,.I,.I,.V,.n]] wc (gp w1 wc A3 (gM3.done KM))):=cD (HG3.out.call (X:=KM) (o:=xM 1 Oe) (i:=gRI) (Li:=[]) (fa:=none) (fc:=0) cL (pN wc 1 1 Oe 0 (fr:=[]) (fa:=none) (fun k v hk=>by simp at hk) cL cL cL cL cL (fun v hv=>by simp at hv)).1 (pN wc 1 1 Oe 0 (fr:=[]) (fa:=none) (fun k v hk=>by simp at hk) cL cL cL cL cL (fun v hv=>by simp at hv)).2);go_wp2_with (first
  |(refine ay rfl 42 (.tmp 3) rfl w2.heap.size 0 rfl [.b 1,.U,.U,.I,.U,.b 1,.string ⟨#[47,114,47,97]⟩,.n,.I,.F,.F,.n,.I,.V,.I,.V,.n,.n,.U,.I,.I,.V,.n] _ HRd.out underlying42 rfl Cb.out ?_)
  |fail)
 refine HCd.out.mono ?_;rintro e ud hd;obtain⟨Zd,A4,rfl,hz,hg,_,_⟩:=GS.done (m:=gM3) HG3.out cL hd;obtain⟨vd,wd,hv,hw,hk,jt,sA,hin⟩:=pP ud Zd hz.len;obtain⟨rd,Ld,_,q37,q40,hid⟩:=hz.eu;rw[gA.2.2.2.2.2.1] at q37;rw[gA.2.2.2.2.2.2.1] at q40;have hst:=hid.de;have HZd:=cD (cC hz (cC q37 q40));have hg2:=hg.xY (a:=rd.sa) (V:=[0,0]) (by
  have:=hst;rw[gA.2.2.2.2.2.2.1] at this;exact this.mono (fun b _ hb=>hb.2))
 have HG4:=cD (hg2.push jt (aj _) hk cL);clear hg2 hst hid q37 q40;have HEd:=cD (cC hv (cC hw (cC sA (cC hin hz.one))));clear hd hz hg hv hw hk jt sA hin HCd;go_upto_region 9 with (first
  |(rw[←HEd.out.1];refine ah rfl 49 (.tmp 7) (.tmp 35) rfl ud.heap.size 0 Zd.toArray rfl rfl HEd.out.2.2.1 HEd.out.2.2.2.1 HEd.out.2.2.2.2 ?_;rw[aq,←HEd.out.2.1])
  |fail)
 have HCf:Hid (au prog 13 #[.p mb,.agg #[.b 6,.U,.U,.I,.U,.B,.z,.n,.I,.F,.F,.n,.I,.V,.I,.V,.n,.n,.U,.I,.I,.v 1,.n]] wd (gp w1 wd A4 (gM4.done gXf))):=cD (HG4.out.call (X:=gXf) (o:=xM 0 []) (i:=gRI) (Li:=[]) (fa:=none) (fc:=0) cL (pN wd 6 0 [] 1 (fr:=[]) (fa:=none) (fun k v hk=>by simp at hk) cL cL cL cL cL (fun v hv=>by simp at hv)).1 (pN wd 6 0 [] 1 (fr:=[]) (fa:=none) (fun k v hk=>by simp at hk) cL cL cL cL cL (fun v hv=>by simp at hv)).2);go_wp2_with (first
  |fail)
 refine HCf.out.mono ?_;rintro e uf hd;obtain⟨Zf,A5,rfl,hz,hg,_,_⟩:=GS.done (m:=gM4) HG4.out cL hd;obtain⟨vf,wf,hv,hw,hk,jt,sA,hin⟩:=pP uf Zf hz.len;have HZf:=cD hz;have HG5:=cD (hg.push jt (aj _) hk cL);have HEf:=cD (cC hv (cC hw (cC sA (cC hin hz.one))));clear hd hz hg hv hw hk jt sA hin HCf;go_upto_region 10 with (first
  |(rw[←HEf.out.1];refine ah rfl 49 (.tmp 8) (.tmp 38) rfl uf.heap.size 0 Zf.toArray rfl rfl HEf.out.2.2.1 HEf.out.2.2.2.1 HEf.out.2.2.2.2 ?_;rw[aq,←HEf.out.2.1])
  |fail)
 have HRg:Hid (wf.rangeAt w2.heap.size 0 [.b 1,.U,.U,.I,.U,.b 1,.string ⟨#[47,114,47,97]⟩,.n,.I,.F,.F,.n,.I,.V,.I,.V,.n,.n,.U,.I,.I,.V,.n]):=cD (HG5.out.range (k:=0) rfl);have HCg:Hid (au prog 13 #[.p mb,.agg #[.b 1,.U,.U,.I,.U,.b 1,.string ⟨#[47,114,47,97]⟩,.n,.I,.F,.F,.n,.I,.V,.I,.V,.n,.n,.U,.I,.I,.V,.n]] wf (gp w1 wf A5 (gM5.done KM))):=cD (HG5.out.call (X:=KM) (o:=xM 1 Oe) (i:=gRI) (Li:=[]) (fa:=none) (fc:=0) cL (pN wf 1 1 Oe 0 (fr:=[]) (fa:=none) (fun k v hk=>by simp at hk) cL cL cL cL cL (fun v hv=>by simp at hv)).1 (pN wf 1 1 Oe 0 (fr:=[]) (fa:=none) (fun k v hk=>by simp at hk) cL cL cL cL cL (fun v hv=>by simp at hv)).2);go_wp2_with (first
  |(refine ay rfl 42 (.tmp 3) rfl w2.heap.size 0 rfl [.b 1,.U,.U,.I,.U,.b 1,.string ⟨#[47,114,47,97]⟩,.n,.I,.F,.F,.n,.I,.V,.I,.V,.n,.n,.U,.I,.I,.V,.n] _ HRg.out underlying42 rfl Cb.out ?_)
  |fail)
 refine HCg.out.mono ?_;rintro e ug hd;obtain⟨Zg,A6,rfl,hz,hg,_,_⟩:=GS.done (m:=gM5) HG5.out cL hd;obtain⟨vg,wg,hv,hw,hk,jt,sA,hin⟩:=pP ug Zg hz.len;have HZg:=cD hz;have Uk:=cD (hg.push jt (aj _) hk cL);have HEg:=cD (cC hv (cC hw (cC sA (cC hin hz.one))));clear hd hz hg hv hw hk jt sA hin HCg;have hc:∀(k:Nat) (x:Bx) (j:Nat) (v:aC),[(⟨w2.heap.size,42,[.b 1,.U,.U,.I,.U,.b 1,.string ⟨#[47,114,47,97]⟩,.n,.I,.F,.F,.n,.I,.V,.I,.V,.n,.n,.U,.I,.I,.V,.n]⟩:Bx),⟨ua.heap.size,49,Za⟩,⟨ub.heap.size,49,Zb⟩,⟨uc.heap.size,49,Zc⟩,⟨ud.heap.size,49,Zd⟩,⟨uf.heap.size,49,Zf⟩,⟨ug.heap.size,49,Zg⟩][k]?=some x→x.cs[j]?=some v→wg.cell? ⟨x.b,j,none⟩=some v:=fun k x j v hx hv=>Uk.out.cell (k:=k) hx hv
 have ca:=hc 1 _ 23 _ rfl (HZa.out.err);have ca2:=hc 1 _ 24 _ rfl (HZa.out.cW);have cb:=hc 2 _ 23 _ rfl (HZb.out.err);have cc:=hc 3 _ 23 _ rfl (HZc.out.err);have cd:=hc 4 _ 24 _ rfl (HZd.out.1.cW);have cd2:=hc 4 _ 37 _ rfl (HZd.out.2.1);have cd3:=hc 4 _ 40 _ rfl (HZd.out.2.2);have cf:=hc 5 _ 23 _ rfl (HZf.out.err);have cg:=hc 6 _ 23 _ rfl (HZg.out.err);dsimp only at ca ca2 cb cc cd cd2 cd3 cf cg;rw[gA.1] at ca;rw[gA.2.1] at ca2;rw[gA.2.2.1] at cb;rw[gA.2.2.2.1] at cc;rw[gA.2.2.2.2.1] at cd;rw[gA.2.2.2.2.2.2.2.1] at cf;rw[gA.2.2.2.2.2.2.2.2.1] at cg
 replace ca2:wg.cell? ⟨ua.heap.size,24,none⟩=some (.string ⟨#[49]⟩):=ca2
 replace cd:wg.cell? ⟨ud.heap.size,24,none⟩=some (.string ⟨#[47,114,47,97]⟩):=cd
 replace cd2:wg.cell? ⟨ud.heap.size,37,none⟩=some (.v 1):=cd2
 replace cd3:wg.cell? ⟨ud.heap.size,40,none⟩=some (.slice rd.sa 2 rd.sc):=cd3
 obtain⟨x0,hx0⟩:∃a,a=wg.alloc (.cells #[.V,.V] 36):=⟨_,rfl⟩;have aav:cE wg x0:=by rw[hx0];exact cT (an _ _) _
 have hst:=(Uk.out.sts (rd.sa,[0,0]) cM).below aav;have HSA:Hid (au prog 48 #[.slice rd.sa 2 rd.sc,.slice (some ⟨wg.heap.size,0,none⟩) 2 2] x0 fun e w'=>e=.returned (.T)∧cE x0 w'):=cD (An x0 rd.sa (some ⟨wg.heap.size,0,none⟩) rd.sc 2 [0,0] [0,0] _ _ cL cL hst (xd hx0));have FJ:=cD (cC hx0 aav);clear hc hx0 aav hst;go_wp2_with (first
  |(rw[←HEg.out.1];refine ah rfl 49 (.tmp 9) (.tmp 41) rfl ug.heap.size 0 Zg.toArray rfl rfl HEg.out.2.2.1 HEg.out.2.2.2.1 HEg.out.2.2.2.2 ?_;rw[aq,←HEg.out.2.1])
  |(rw[←FJ.out.1])
  |fail)
 refine HSA.out.mono ?_;rintro e x1 ⟨rfl,dB⟩;have hgx:=Uk.out.below (FJ.out.2.trans (dB.mono FJ.out.2.size));have HVV:Hid (au prog 14 #[.p mb] x1 (jb x1 [1,0])):=cD (by
  have:=pY hgx.gu hgx.ok;rw[hgx.Mz] at this;have e:(gM5.done KM).1.v=[1,0]:=gA.2.2.2.2.2.2.2.2.2.1;rw[e] at this;exact this)
 have aau:=FJ.out.2.trans (dB.mono FJ.out.2.size);have cf1:=(aau.cell (p:=⟨uf.heap.size,23,none⟩) (aI _ _ cf)).trans cf;have cg1:=(aau.cell (p:=⟨ug.heap.size,23,none⟩) (aI _ _ cg)).trans cg;have HGX:=cD hgx;clear hgx dB aau ca ca2 cb cc cd cd2 cd3 cf cg;go_wp2_with fail
 refine HVV.out.mono ?_;rintro e x2 hv;obtain⟨va,vc,rfl,_,Sq,dI⟩:=hv.sl;obtain⟨x3,hx3⟩:∃a,a=x2.alloc (.cells #[.v 1,.V] 36):=⟨_,rfl⟩;have eO:cE x2 x3:=by rw[hx3];exact cT (an _ _) _
 have HSB:Hid (au prog 48 #[.slice va 2 vc,.slice (some ⟨x2.heap.size,0,none⟩) 2 2] x3 fun e w'=>e=.returned (.T)∧cE x3 w'):=cD (An x3 va (some ⟨x2.heap.size,0,none⟩) vc 2 [1,0] [1,0] _ _ cL cL (Sq.below eO) (xd hx3));have HX3:=cD (cC hx3 (dI.trans (eO.mono dI.size)));clear hv Sq dI hx3 eO;go_wp2_with (first
  |(rw[←HX3.out.1])
  |fail)
 refine HSB.out.mono ?_;rintro e x4 ⟨rfl,hb4⟩;have hgy:=HGX.out.below (HX3.out.2.trans (hb4.mono HX3.out.2.size));have Cc:Hid (au prog 15 #[.p mb,.V] x4 fun e w'=>∃a c,e=.returned (.slice a 1 c)∧cE x4 w'):=cD (by
  have:=Ag hgy.gu hgy.ok cL 0;rw[hgy.Mz] at this;refine this.mono ?_;rintro e w' ⟨v,C,rfl,hC,how,_,oL⟩;have h1:=Ot hgy.gu (s:=1) cL gA.2.2.2.2.2.2.2.2.2.2.1;obtain⟨a,c,hv⟩:=iE how;rw[h1] at hv;exact⟨a,c,by rw[hv],oL⟩)
 have HGY:=cD hgy;clear hgy hb4;go_wp2_with fail
 refine Cc.out.mono ?_;rintro e x5 ⟨na,nc,rfl,jz⟩;have gQ:=nS.out.2.trans ((HGY.out.below jz).gu.bl.mono nS.out.2.size);have FM:=cD gQ;clear gQ jz;go_wp2_with fail
 go_ret
 exact⟨by simp,FM.out⟩
theorem yL{α:Type}(f:α→Nat)(hv:Nat):∀(l:List α) (base:Nat),(∀(k:Nat) x,l[k]?=some x→f x=base+k+1)→l.filter (fun x=>decide (hv<f x))=l.drop (hv - base)
 |[],base,_=>by simp
 |x::l,base,h=>by
  have h0:f x=base+1:=by have:=h 0 x rfl;omega
  have ih:=yL f hv l (base+1) (fun k y hk=>by have:=h (k+1) y (by simpa using hk);omega);rw[List.filter_cons];by_cases hc:hv<f x
  ·rw[if_pos (by simpa using hc),ih]
   have e1:hv - (base+1)=0:=by omega
   have e2:hv - base=0:=by omega
   rw[e1,e2];rfl
  ·rw[if_neg (by simpa using hc),ih]
   have e2:hv - base=(hv - (base+1))+1:=by omega
   rw[e2,List.drop_succ_cons]
section
variable{w0 w:World}{A:MA}{m:cV}{N:Nat}
theorem AK(h:cZ w0 w A m)(ok:m.Ok N)(hv:Nat):A.oA m hv=((A.Ql m).drop hv).take 8:=by
 unfold MA.oA ij;rw[List.take_of_length_le (aj _)];have:=yL (fun x:fW×ei=>x.1.seq) hv (A.Ql m) 0 (fun k x hx=>by
  obtain⟨c,h1,_⟩:=vJ hx;have:=(ok.own k x.1 h1).2.1;omega)
 simp only[id] at*;rw[this];rfl
theorem Ov(h:cZ w0 w A m)(ok:m.Ok N){hv t:Nat}{x:fW×ei}(hx:(A.oA m hv)[t]?=some x):m.own[hv+t]?=some x.1∧x.1.ew=m.dy∧x.1.seq=hv+t+1:=by
 rw[AK h ok,List.getElem?_take] at hx;split at hx
 ·rw[List.getElem?_drop] at hx
  obtain⟨c,h1,_⟩:=vJ hx;exact⟨h1,(ok.own _ x.1 h1).1,(ok.own _ x.1 h1).2.1⟩
 cases hx
theorem Ou(h:cZ w0 w A m)(ok:m.Ok N)(hv:Nat):(A.oA m hv).length=min 8 (m.own.length - hv):=by
 rw[AK h ok,List.length_take,List.length_drop,h.EX]
end
theorem rK{Z:List aC}(hl:Z.length=43){x:Int}(h:Z[23]?=some (.i x)):∃R:Array aC,(∀w,(Instr.field 49 (.agg Z.toArray) 1).run prog w=.ok (.agg R) w)∧∀w,(Instr.field 47 (.agg R) 0).run prog w=.ok (.i x) w:=
 match Z,hl with
 |c0::c1::c2::c3::c4::c5::c6::c7::c8::c9::TM::TL::Lz::TK::M9::TJ::TI::TH::TG::PV::Jh::Lw::PU::TF::c24::c25::c26::c27::c28::c29::c30::c31::c32::c33::c34::c35::c36::c37::c38::c39::c40::c41::c42::[],_=>by
  obtain rfl:TF=.i x:=by simpa using h
  exact⟨#[.i x,c24,c25,c26,c27,c28,c29,c30,c31,c32,c33,c34,c35],fun w=>by kernel_rfl,fun w=>by kernel_rfl⟩
theorem AO{P:Program}{ops:Array Oper}{rest:List Oper}{op:Oper}{a:Act}{w:ag}{Q:Exit→Act→ag→Prop}(ty:TypeId)(x:Operand)(ho:op.op=.load ty x)
  (b o:Nat) (hx:a.eval x=.pointer (some ⟨b,o,none⟩)) (cs:List aC) (d:TypeDesc) (hc:w.rangeAt b o cs)
  (hu:P.underlying ty=some d) (hd:d.isRow=true) (hi:(P.info? ty).map (·.size)=some cs.length)
  (h:wpList P ops Q rest (a.put op.dst (.agg cs.toArray)) w) (hw:Region.wanted op (yielded ops a.tmps)=true:=by kernel_rfl):wpList P ops Q (op::rest) a w:=by
 unfold wpList;rw[if_pos hw];exact .inl (wp_load_mid ty x ho b o hx cs d hc hu hd hi h)
theorem cQ.chain{S T:Nat→Prop}{a b c:ag}(h:cQ S a b)(k:cQ T b c)(hT:∀x,x<a.heap.size→T x→S x):cQ S a c:=
 ⟨k.os.trans h.os,k.tape.trans h.tape,k.output.trans h.output,Nat.le_trans h.size k.size,fun x hx hn=>(k.block x (aP hx h.size) (fun e=>hn (hT x hx e))).trans (h.block x hx hn)⟩
def two{α:Type}(x y:α)(i:Nat):α:=if i=0 then x else y
theorem pU.congr{w0 w:ag}{mb s9:Nat→Nat}{M M':Nat→cV}{N n:Nat}{A:Nat→MA}(h:pU w0 w mb M N n A)(h1:∀i,i<n→mb i=s9 i)(h2:∀i,i<n→M i=M' i):pU w0 w s9 M' N n A:=
 ⟨fun i hi=>by rw[←h1 i hi,←h2 i hi];exact h.gs i hi,h.ap⟩
theorem pU.pair{w0 w:ag}{a b:Nat}{x y:cV}{mb:Nat→Nat}{M:Nat→cV}{N:Nat}{A:Nat→MA}(h:pU w0 w mb M N 2 A)(h1:mb 0=a)(h2:mb 1=b)(h3:M 0=x)(h4:M 1=y):pU w0 w (two a b) (two x y) N 2 A:=
 h.congr (fun i hi=>by rcases(show i=0∨i=1 by omega) with rfl|rfl;exact h1;exact h2) (fun i hi=>by rcases(show i=0∨i=1 by omega) with rfl|rfl;exact h3;exact h4)
theorem Zq:rg0.Ok 0:=cV.Ok.new cL cL cL (fun r hr=>by simp at hr;rcases hr with rfl|rfl<;>decide+kernel)
theorem aaQ:yJ.Ok 0:=cV.Ok.new cL cL cL (fun r hr=>by simp at hr;rcases hr with rfl|rfl<;>decide+kernel)
theorem Td:qE 0 2 [pR,pS]=0∧qE 1 2 [pR,pS]=0:=by decide+kernel
section
variable{w0 w w':World}{a b:Nat}{x y:cV}{N:Nat}{A:Nat→MA}
theorem pU.fst(h:pU w0 w (two a b) (two x y) N 2 A)(hN:N≤80000){X:jA}{o:di}{i:ei}{Li:List dr}{fa:Option aM}{fc:Nat}(hX:pV w X o i Li fa)(hM:ki w o X.oP):
  au prog 13 #[.p a,.agg (X.cells o i fa fc).toArray] w fun e w'=>∃(Z:List aC) (A':Nat→MA),e=.returned (.agg Z.toArray)∧pU w0 w' (two a b) (two (x.done X).1 y) (N+1) 2 A':=by
 refine((h.gs 0 cL).call hN (fc:=fc) hX hM).mono ?_;intro e w' hd;obtain⟨Z,A',rfl,_,hf,_⟩:=h.done (i:=0) cL cK hd;exact⟨Z,A',rfl,hf.pair rfl rfl rfl rfl⟩
def aa4(w0 w:ag)(a b:Nat)(x y:cV)(N:Nat)(A:Nat→MA)(X:jA)(e:aL)(w':ag):Prop:=
 ∃(Z:List aC) (A':Nat→MA),e=.returned (.agg Z.toArray)∧Z.length=43∧Z[23]?=some (.i (y.done X).2.e)∧pU w0 w' (two a b) (two x (y.done X).1) (N+1) 2 A'∧cQ (A 1).Z w w'∧∀k,(A' 1).Z k→k<w.heap.size→(A 1).Z k
theorem pU.snd(h:pU w0 w (two a b) (two x y) N 2 A)(hN:N≤80000){X:jA}{o:di}{i:ei}{Li:List dr}{fa:Option aM}{fc:Nat}(hX:pV w X o i Li fa)(hM:ki w o X.oP):
  au prog 13 #[.p b,.agg (X.cells o i fa fc).toArray] w (aa4 w0 w a b x y N A X):=by
 refine((h.gs 1 cL).call hN (fc:=fc) hX hM).mono ?_;intro e w' hd;obtain⟨Z,A',rfl,hz,hf,hk,ho⟩:=h.Yu (i:=1) cL cK hd;exact⟨Z,A',rfl,hz.len,hz.err,hf.pair rfl rfl rfl rfl,hk,ho⟩
end
section
variable{w0 w:World}{a b:Nat}{x y:cV}{N:Nat}{A:Nat→MA}
theorem pU.g0(h:pU w0 w (two a b) (two x y) N 2 A):GS w0 w a (A 0) x N [] []:=h.gs 0 cL
theorem pU.g1(h:pU w0 w (two a b) (two x y) N 2 A):GS w0 w b (A 1) y N [] []:=h.gs 1 cL
end
theorem GS.tree{w0 w:ag}{b N:Nat}{A:MA}{y:cV}(g:GS w0 w b A y N [] [])(r:Nat)(hr:r<y.eC.length){cP:cO}{cS:Int}{M:List (cO×Nd)}(h1:y.cP r=cP)(h2:y.cS r=cS)(h3:y.dQ r=M):
  au prog 19 #[.p b,.i r] w fun e w'=>∃b,e=.returned (.p b)∧TR w0 w' b cP cS M∧w.heap.size≤b∧cE w w':=by
 subst h1 h2 h3;have:=JG g.gu r hr (by rw[g.ok.tl];have:=g.ok.rl;omega)
 rwa [g.Mz] at this
theorem aeN{m:cV}(h:jM m)(r:Nat):(sP m m.own.length).cP r=m.cP r∧(sP m m.own.length).cS r=m.cS r∧(sP m m.own.length).dQ r=m.dQ r∧(sP m m.own.length).eC=m.eC:=by
 rw[WL];have h1:=h.eC;have h2:(CW yJ m.own).dP=m.dP:=by rw[h.dP];exact(zW _ yJ).2
 generalize CW yJ m.own=y at h1 h2;unfold cV.cP cV.cS cV.dQ;rw[h1,h2];exact⟨rfl,rfl,rfl,rfl⟩
theorem ZM{w:ag}{lo:Nat→Prop}{x:fW}{r:ei}{L:List dr}(hx:qK x)(h:ez w lo r L x):pV w (wQ x) (xM 0 []) r L none∧ki w (xM 0 []) (wQ x).oP:=by
 obtain⟨h1,h2⟩:=pN w 4 0 [] 0 (fr:=[]) (fa:=none) (fun k v hk=>by simp at hk) cL cL cL cL cL (fun v hv=>by simp at hv);have hn:=h1.num;have hi:=hx.is;refine⟨⟨h1.op,⟨⟨rfl,h.de.mono (fun _ _ _=>trivial),hx.de.2⟩,⟨rfl,h.like.both (fun _ _ _=>trivial),h.row,fun e he=>(hx.dF.2 e he).node.num⟩,hx.seq,hx.ep,hx.cl⟩,h1.fr,⟨hn.kind,hn.oE,hn.req,hn.os,hn.on,hn.dy,hn.dO,hn.ep,hi.ew,hi.dO⟩,?_⟩,h2⟩;have e1:(wQ x).FP.length=(opHead (gO 0 [])++(dw 8 0++[])).length:=rfl;have e2:(wQ x).eu=x:=rfl;have e3:(wQ x).fr.length=0:=rfl;rw[e1,e2,e3,aa,jX];have e4:(gO 0 []).cW.length=0:=rfl;have e5:(gO 0 []).data.length=0:=rfl;have e6:(dw 8 0++[]).length=8:=by simp[dD]
 have h3:=Bq hx.dF.2;have h4:=hx.dF.1;have h5:=hx.de.1;unfold kF;omega
theorem JQ{M:List (cO×Nd)}(h:(M.map (·.1)).Nodup):sX M M=true:=by
 unfold sX;rw[decide_eq_true rfl,Bool.true_and];refine List.all_eq_true.2 fun x hx=>decide_eq_true ?_
 obtain⟨j,hj⟩:=List.getElem?_of_mem hx;exact nK h hj
theorem JP{cP:cO}{cS:Int}{M:List (cO×Nd)}(h:(M.map (·.1)).Nodup):C6 cP cS M cP cS M=true:=by
 unfold C6;rw[JQ h];simp
theorem Mn(w1 w2:ag)(fH:w2=w1.alloc (.cells #[.string ⟨#[47,114]⟩,.string ⟨#[47,115]⟩] 9)):gZ w2 w2.heap.size (some ⟨w1.heap.size,0,none⟩) [pR,pS]:=fun k p hk=>by
 have hk2:w1.heap.size<w2.heap.size:=by rw[fH];simp
 have hc:=fun j=>aG w2 w1.heap.size j _ 9 (0,0) (by rw[fH];exact aD w1 _)
 have h0:k<2:=by have:=(aB.1 hk).1;simpa using this
 refine⟨w1.heap.size,0,rfl,hk2,?_⟩;rw[Nat.zero_add,hc k];rcases(show k=0∨k=1 by omega) with rfl|rfl<;>(simp at hk;subst hk;rfl)
def FoS(w2 wr:ag)(a b:Nat)(k:Nat):Prop:=∃A ma,pU w2 wr (two a b) (two ma yJ) k 2 A∧jM ma
def FoT(w2 wr:ag)(a b:Nat)(m:cV)(j N:Nat):Prop:=∃A,pU w2 wr (two a b) (two m (sP m j)) N 2 A
theorem FoT.more{w2 wr:ag}{a b j N N':Nat}{m:cV}(h:FoT w2 wr a b m j N)(hN:N≤N'):FoT w2 wr a b m j N':=by
 obtain⟨A,h⟩:=h;exact⟨A,h.more hN⟩
def Ns(w2 w8 wr:ag)(a b:Nat)(m:cV)(j N:Nat)(Z8:Nat→Prop):Prop:=∃A,pU w2 wr (two a b) (two m (sP m j)) N 2 A∧cQ Z8 w8 wr∧∀k,(A 1).Z k→k<w8.heap.size→Z8 k
theorem Ns.t{w2 w8 wr:ag}{a b j N:Nat}{m:cV}{Z8:Nat→Prop}(h:Ns w2 w8 wr a b m j N Z8):FoT w2 wr a b m j N:=by
 obtain⟨A,h,_⟩:=h;exact⟨A,h⟩
def Ng(w2 w8 wr:ag)(a b:Nat)(m:cV)(j N:Nat)(A:Nat→MA)(Z8:Nat→Prop)(x:fW)(e:aL)(w':ag):Prop:=
 ∃Z:List aC,e=.returned (.agg Z.toArray)∧Z.length=43∧Z[23]?=some (.i ((sP m j).done (wQ x)).2.e)∧(∀j2,((sP m j).done (wQ x)).1=sP m j2→Ns w2 w8 w' a b m j2 (N+1) Z8)∧
   ∀g o,wr.heap[g]?=some o→¬(A 1).Z g→w'.heap[g]?=some o
theorem Fo{w2 w8 wr:ag}{a b j N:Nat}{m:cV}{A:Nat→MA}{Z8:Nat→Prop}(h:pU w2 wr (two a b) (two m (sP m j)) N 2 A)(hk:cQ Z8 w8 wr)(hz:∀k,(A 1).Z k→k<w8.heap.size→Z8 k)(hN:N≤80000){x:fW}(hx:qK x){r:ei}{Lr:List dr}{lo:Nat→Prop}(hit:ez w8 lo r Lr x)(hlo:∀b,lo b→¬Z8 b):
  au prog 13 #[.p b,.agg ((wQ x).cells (xM 0 []) r none 0).toArray] wr (Ng w2 w8 wr a b m j N A Z8 x):=by
 have hi:=hit.kept hk hlo;obtain⟨q1,q2⟩:=ZM hx hi;refine(h.snd hN (fc:=0) q1 q2).mono ?_;rintro e w' ⟨Z,A',rfl,h1,h2,h3,h4,h5⟩;refine⟨Z,rfl,h1,h2,fun j2 e=>⟨A',?_,hk.chain h4 (fun x h8 h9=>hz x h9 h8),fun k h6 h7=>hz k (h5 k h6 (aP h7 hk.size)) h7⟩,fun g o hg hn=>h4.same hg hn⟩;have:pU w2 w' (two a b) (two m ((sP m j).done (wQ x)).1) (N+1) 2 A':=h3
 rwa [e] at this
theorem Ns.row{w2 w8 wr:ag}{a b j N:Nat}{m:cV}{Z8:Nat→Prop}(h:Ns w2 w8 wr a b m j N Z8){g o:Nat}{cs:List aC}(hr:w8.rangeAt g o cs)(hg:g<w8.heap.size)(hn:¬Z8 g):wr.rangeAt g o cs:=by
 obtain⟨A,_,hk,_⟩:=h;exact fun j v hv=>(hk.cell (p:=⟨g,o+j,none⟩) hg hn).trans (hr j v hv)
theorem Ns.more{w2 w8 wr:ag}{a b j N N':Nat}{m:cV}{Z8:Nat→Prop}(h:Ns w2 w8 wr a b m j N Z8)(hN:N≤N'):Ns w2 w8 wr a b m j N' Z8:=by
 obtain⟨A,h,hk⟩:=h;exact⟨A,h.more hN,hk⟩
theorem Im{w:ag}(mx:dM w)(pow:iz w)(a:Option aM)(c:Nat)(L:List qv)(hat:LX w a L)(hl:L.length≤maxLen)(q:Nat)(hq:q<256):
  au prog 5 #[.slice a L.length c,.b q] w fun e w'=>e=.returned (.T)∧cE w w':=by
 have HGR:=cD (He w a c L hat hl);obtain⟨n,hn⟩:=cF L.length;rw[←hn] at HGR⊢;have HA:=cD (cC hat (cC hn (cC mx pow)));have Cb:Hid (cG 42 23):=cD cJ;have HSI:Hid (cG 40 7):=cD cJ;clear hat hl hn mx pow;go_enter func5,ntmps5
 go_wp2_with fail
 refine HGR.out.mono ?_;rintro e w1 ⟨⟨g,rfl,aak⟩,dB⟩;cases g with
 |true=>
  have HB:=cD dB;clear dB aak;go_wp2_with fail
  go_ret
  exact⟨rfl,HB.out⟩
 |false=>
 have adN:n≤60:=aak rfl;clear aak;obtain⟨w2,fH⟩:∃a,a=w1.alloc (.cells #[.string ⟨#[47,114]⟩,.string ⟨#[47,115]⟩] 9):=⟨_,rfl⟩;have dI:cE w w2:=by rw[fH];exact dB.trans ((cT (an _ w1) _).mono dB.size)
 have hS:=Mn w1 w2 fH;have HNW:Hid (au prog 12 #[.I,.i 2,.slice (some ⟨w1.heap.size,0,none⟩) 2 2] w2 fun e w'=>cE w2 w'∧∃A:MA,e=.returned (.tuple #[.p A.mb,.I])∧A.X=(fun _=>False)∧cZ w2 w' A rg0∧∀b,A.Z b→w2.heap.size≤b):=
  cD (Gg (c:=2) (an _ w2) (HA.out.2.2.1.kept dI) (jq HA.out.2.2.2 dI) hS 0 2 ⟨by decide,fun r hr=>by simp at hr;rcases hr with rfl|rfl<;>decide⟩ Td.1 (fun _=>False) (fun _ e=>e.elim))
 have nW:=cD (cC fH dI);clear hS fH dI dB;go_wp2_with (first|rw[←nW.out.1]|fail)
 refine HNW.out.mono ?_;rintro e w3 ⟨eO,A0,rfl,_,hA,_⟩;obtain⟨ba,hba⟩:∃n,n=A0.mb:=⟨_,rfl⟩;rw[←hba];obtain⟨w4,lP⟩:∃a,a=w3.alloc (.cells #[.string ⟨#[47,114]⟩,.string ⟨#[47,115]⟩] 9):=⟨_,rfl⟩;have hb4:cE w3 w4:=by rw[lP];exact cT (an _ _) _
 have Ya:pU w2 w3 (fun _=>ba) (fun _=>rg0) 0 1 (fun _=>A0):=pU.one ⟨hba.symm,hA,Zq,(fun x hx=>by cases hx),(fun x hx=>by cases hx)⟩;have hf4:=Ya.below hb4;have h24:cE w2 w4:=eO.trans (hb4.mono eO.size);have aaw:=nW.out.2;have HNB:Hid (au prog 12 #[.i 1,.i 2,.slice (some ⟨w3.heap.size,0,none⟩) 2 2] w4 fun e w'=>cE w4 w'∧∃A:MA,e=.returned (.tuple #[.p A.mb,.I])∧A.X=(fun b=>∃j,j<1∧A0.Z b)∧cZ w2 w' A yJ∧∀b,A.Z b→w4.heap.size≤b):=
  cD (Gg (c:=2) h24 (HA.out.2.2.1.kept aaw) (jq HA.out.2.2.2 aaw) (Mn w3 w4 lP) 1 2 ⟨by decide,fun r hr=>by simp at hr;rcases hr with rfl|rfl<;>decide⟩ Td.2 _ (fun b ⟨_,_,hz⟩=>⟨(hf4.gs 0 cL).gu.lo b hz,(hf4.gs 0 cL).gu.ze hz⟩))
 have HF4:=cD hf4;have Jk:=cD lP;clear eO hA hba lP hb4 Ya hf4 h24 aaw;go_wp2_with (first|rw[←Jk.out]|fail)
 refine HNB.out.mono ?_;rintro e w5 ⟨jz,B0,rfl,hX,hB,hz⟩;obtain⟨bb,jt⟩:∃n,n=B0.mb:=⟨_,rfl⟩;rw[←jt];obtain⟨AF,hF⟩:=HF4.out.add jz hB hX hz aaQ;have HS0:Hid (FoS w2 w5 ba bb 0):=cD ⟨AF,rg0,hF.pair rfl jt.symm rfl rfl,jM.start⟩;clear jz hX hB hz jt hF HF4;go_wp2_with fail
 go_loopw [9] (fun iv wr=>∃k:Nat,k≤n∧iv=.i k∧Hid (FoS w2 wr ba bb k)) (fun iv _=>n - (intOf iv).toNat)
 case atStart=>exact⟨0,by omega,rfl,HS0⟩
 obtain⟨k,hk,rfl,HS⟩:=hrel;by_cases hlt:k<n
 ·obtain⟨x,hx⟩:∃x,L[k]?=some x:=⟨_,af (by rw[←HA.out.2.1];exact hlt)⟩
  obtain⟨A,m,hg,hm⟩:=HS.out;have oL:cE w wr:=nW.out.2.trans ((hg.gs 0 cL).gu.bl.mono nW.out.2.size);obtain⟨b,off,ha,hb,fS,hin,hmd⟩:=HA.out.1 k x hx;subst ha;have hrw:=dR fS oL hb;have z0:wr.cell? ⟨b,off+k*23,none⟩=some (.b (x.X.kind:Int)):=by
   have:=hrw 0 (.b (x.X.kind:Int)) rfl
   rwa [Nat.add_zero] at this
  have HCA:Hid (au prog 13 #[.p ba,.agg x.cells.toArray] wr fun e w'=>∃(Z:List aC) (A':Nat→MA),e=.returned (.agg Z.toArray)∧pU w2 w' (two ba bb) (two (m.done x.X).1 yJ) (k+1) 2 A'):=cD (hg.fst cK (hin.below oL) (hmd.below oL));have HFD:Hid ((x.X.kind:Int)≠4→jM (m.done x.X).1):=cD (fun h4=>hm.done (hg.gs 0 cL).ok (fun h0 e=>h4 (by
   have:=(N0 (hin.isX (fun e2=>h4 (by rw[e2];rfl))) h0).2.2.kind;rw[this,e];rfl)))
  obtain⟨CS,uj⟩:∃l,l=x.cells:=⟨_,rfl⟩;rw[←uj] at HCA hrw;have SR:CS.length=23:=by rw[uj];rfl
  have nT:=cD hrw;have I3:Hid (cG 42 CS.length):=cD (by rw[SR];exact Cb.out);have HN0:Hid (FoS w2 wr ba bb (k+1)):=cD ⟨A,m,hg.more cK,hm⟩;have tlt:decide ((k:Int)<(n:Int))=true:=by simp;omega
  obtain⟨c4,s4⟩:∃v,((x.X.kind:Int) != 4)=v:=⟨_,rfl⟩;have FK:=cD s4;clear hx hg hm oL hb fS hin hmd hrw uj SR HS;cases c4 with
  |false=>
   go_wp2_with fail
   go_roundw
   case rel=>exact⟨k+1,by omega,by go_num,HN0⟩
   case measure=>simp[intOf];omega
  |true=>
  go_wp2_with (first
   |(refine ay rfl 42 (.tmp 53) rfl b (off+k*23) rfl CS _ nT.out underlying42 rfl I3.out ?_)
   |fail)
  refine HCA.out.mono ?_;rintro e w7 ⟨Z,A',rfl,hf⟩;have HN:Hid (FoS w2 w7 ba bb (k+1)):=cD ⟨A',_,hf,HFD.out (by simpa using FK.out)⟩;clear hf;go_wp2_with fail
  go_roundw
  case rel=>exact⟨k+1,by omega,by go_num,HN⟩
  case measure=>simp[intOf];omega
 obtain rfl:k=n:=by omega
 obtain⟨wA,hwA⟩:=cF wr;subst hwA;obtain⟨A,m,hg,hm⟩:=HS.out;have tlt:decide ((k:Int)<(k:Int))=false:=by simp
 have okm:m.Ok k:=(hg.gs 0 cL).ok;obtain⟨M,hM⟩:=cF m.own.length;have apf:M≤60:=by
  rw[hM,okm.zl];exact Nat.le_trans (cV.vT okm.vN _) adN
 have HM:=cD (cC hM (cC hm okm));have Xl:Hid (FoT w2 wA ba bb m 0 (60+3*0)):=cD ⟨A,hg.more cK⟩;clear hg hm okm hM HS hlt;go_wp2_with fail
 go_loopw [10] (fun av wr=>∃j:Nat,j≤M∧av=.v j∧Hid (FoT w2 wr ba bb m j (60+3*j))) (fun av _=>M+1 - (intOf av).toNat)
 case atStart=>exact⟨0,by omega,rfl,Xl⟩
 obtain⟨j,hj,rfl,HT⟩:=hrel;obtain⟨AT,hT⟩:=HT.out;have Fc:=hT.gs 0 cL;have Cc:Hid (au prog 15 #[.p ba,.v j] wr (wK wr ((AT 0).oA m j))):=cD (by
  have:=Ag Fc.gu Fc.ok cK j
  rwa [Fc.Mz] at this)
 have hnl:=Ou Fc.gu Fc.ok j;have HNG:Hid (∀(t:Nat) x,((AT 0).oA m j)[t]?=some x→m.own[j+t]?=some x.1∧x.1.ew=m.dy∧x.1.seq=j+t+1):=cD (fun t x hx=>Ov Fc.gu Fc.ok hx);obtain⟨P,hP⟩:=cF ((AT 0).oA m j);have UM:two m (sP m j) 0=m:=rfl;rw[UM] at hnl;rw[←hP] at Cc HNG hnl;rw[←HM.out.1] at hnl;have HHT:=cD hT;clear Fc hP UM hT HT;go_wp2_with fail
 refine Cc.out.mono ?_;rintro e w8 ⟨v8,C,rfl,hC,how,hit,Ii⟩;obtain⟨na,nc,rfl⟩:=iE how;obtain⟨pn,MQ⟩:∃k,k=P.length:=⟨_,rfl⟩;rw[←MQ] at hnl how⊢;have H8:=cD (cC hC (cC how (cC hit (cC Ii MQ))));have HT8:Hid (Ns w2 w8 w8 ba bb m j (60+3*j) (fun k=>(AT 1).Z k)):=cD ⟨AT,HHT.out.below Ii,cQ.refl _ _,fun k h _=>h⟩;clear hC how hit Ii MQ;by_cases hp0:pn=0
 ·subst hp0
  have hjM:j=M:=by omega
  subst hjM;have hF8:=HHT.out.below H8.out.2.2.2.1;have Kq:Hid (au prog 14 #[.p ba] w8 (jb w8 [j,0])):=cD (by
   have Fc:=hF8.gs 0 cL;have:=pY Fc.gu Fc.ok;rw[Fc.Mz] at this;have e:(two m (sP m j) 0).v=[j,0]:=by
    show m.v=_;rw[HM.out.2.1.v,←HM.out.1]
   rwa [e] at this)
  have HF8:=cD hF8;have tp0:(((0:Nat):Int)==0)=true:=rfl;clear hF8 hnl;go_wp2_with fail
  refine Kq.out.mono ?_;rintro e u1 hv;obtain⟨va,vc,rfl,_,hst,dB⟩:=hv.sl;have hF1:=HF8.out.below dB;have ZW:Hid (au prog 14 #[.p bb] u1 (jb u1 [j,0])):=cD (by
   have Fc:=hF1.gs 1 cL;have:=pY Fc.gu Fc.ok;rw[Fc.Mz] at this;have e:(two m (sP m j) 1).v=[j,0]:=HM.out.2.1.bj HM.out.2.2 j (by rw[←HM.out.1];exact aj _)
   rwa [e] at this)
  have HF1:=cD hF1;have aj6:=cD hst;clear hv hst dB hF1;go_wp2_with fail
  refine ZW.out.mono ?_;rintro e u2 hv;obtain⟨vb,vd,rfl,_,Sq,dI⟩:=hv.sl;obtain⟨p1,o1,e1,_,l1,c1⟩:=(aj6.out.below dI) 0 j rfl;obtain⟨p2,o2,e2,_,l2,c2⟩:=Sq 0 j rfl;subst e1 e2;rw[Nat.add_zero] at c1 c2;have hF2:=HF1.out.below dI;have hlm:m.eC.length=2:=by
   rw[HM.out.2.2.tl,HM.out.2.1.dP];rfl
  have hq:∀r,(sP m j).cP r=m.cP r∧(sP m j).cS r=m.cS r∧(sP m j).dQ r=m.dQ r∧(sP m j).eC=m.eC:=fun r=>by
   have:=aeN HM.out.2.1 r
   rwa [←HM.out.1] at this
  have HTA:Hid (∀r:Nat,r<2→∀W,cE u2 W→au prog 19 #[.p ba,.i r] W fun e w'=>∃b,e=.returned (.p b)∧TR w2 w' b (m.cP r) (m.cS r) (m.dQ r)∧W.heap.size≤b∧cE W w'):=cD (fun r hr W hW=>(hF2.below hW).g0.tree r (by rw[hlm];exact hr) rfl rfl rfl);have HTB:Hid (∀r:Nat,r<2→∀W,cE u2 W→au prog 19 #[.p bb,.i r] W fun e w'=>∃b,e=.returned (.p b)∧TR w2 w' b (m.cP r) (m.cS r) (m.dQ r)∧W.heap.size≤b∧cE W w'):=cD (fun r hr W hW=>(hF2.below hW).g1.tree r (by rw[(hq r).2.2.2,hlm];exact hr) (hq r).1 (hq r).2.1 (hq r).2.2.1);have HTS:Hid (∀r:Nat,r<2→C6 (m.cP r) (m.cS r) (m.dQ r) (m.cP r) (m.cS r) (m.dQ r)=true):=cD (fun r hr=>JP (HM.out.2.2.tree r (by rw[HM.out.2.1.dP];exact hr)).inv.nodup);have HF2:=cD hF2;clear hv Sq dI hF2 hlm hq l1 l2;go_wp2_with fail
  refine(HTA.out 0 cL u2 (an _ _)).mono ?_;rintro e u3 ⟨ta0,rfl,wR,_,hb⟩;have aj3:=cD wR;have HU3:Hid (cE u2 u3):=cD hb;clear wR hb;go_wp2_with fail
  refine(HTB.out 0 cL u3 HU3.out).mono ?_;rintro e u4 ⟨tb0,rfl,htb,_,hb⟩;have QC:Hid (au prog 21 #[.p ta0,.p tb0] u4 fun e w'=>e=.returned (.T)∧cE u4 w'):=cD (by
   have:=(aj3.out.below hb).same htb
   rwa [HTS.out 0 cL] at this)
  have HU4:Hid (cE u2 u4):=cD (HU3.out.trans (hb.mono HU3.out.size));clear htb hb;go_wp2_with fail
  refine QC.out.mono ?_;rintro e u5 ⟨rfl,hb⟩;have HU5:Hid (cE u2 u5):=cD (HU4.out.trans (hb.mono HU4.out.size));clear hb QC;go_wp2_with fail
  refine(HTA.out 1 cL u5 HU5.out).mono ?_;rintro e u6 ⟨ta1,rfl,wR,_,hb⟩;have aj2:=cD wR;have HU6:Hid (cE u2 u6):=cD (HU5.out.trans (hb.mono HU5.out.size));clear wR hb;go_wp2_with fail
  refine(HTB.out 1 cL u6 HU6.out).mono ?_;rintro e u7 ⟨tb1,rfl,htb,_,hb⟩;have QC:Hid (au prog 21 #[.p ta1,.p tb1] u7 fun e w'=>e=.returned (.T)∧cE u7 w'):=cD (by
   have:=(aj2.out.below hb).same htb
   rwa [HTS.out 1 cL] at this)
  have HU7:Hid (cE u2 u7):=cD (HU6.out.trans (hb.mono HU6.out.size));clear htb hb;go_wp2_with fail
  refine QC.out.mono ?_;rintro e u8 ⟨rfl,hb⟩;have HU8:Hid (cE u2 u8):=cD (HU7.out.trans (hb.mono HU7.out.size));clear hb QC;go_wp2_with fail
  have oL:cE w u8:=nW.out.2.trans (((HF2.out.below HU8.out).gs 0 cL).gu.bl.mono nW.out.2.size);have YS:=cD (SW (HA.out.2.2.1.kept oL) (jq HA.out.2.2.2 oL));have HBW:=cD oL;clear oL;go_wp2_with fail
  refine YS.out.mono ?_;rintro e u9 ⟨rfl,SN⟩;have QF:=cD (HBW.out.trans (SN.mono HBW.out.size));clear SN;go_wp2_with fail
  go_ret
  exact⟨by simp,QF.out⟩
 have tp:((pn:Int)==0)=false:=by simp;omega
 obtain⟨g8,hna⟩:∃g,na=some ⟨g,0,none⟩:=by
  rcases H8.out.2.1.2 with ⟨_,h0⟩|⟨g,cap,cur,e,_⟩
  ·omega
  cases e;exact⟨g,rfl⟩
 subst hna;have hg8:wr.heap.size≤g8∧g8<w8.heap.size:=H8.out.2.1.lt g8 rfl;have hlo:∀b,wr.heap.size≤b→¬(AT 1).Z b:=fun b hb e=>by have:=(HHT.out.gs 1 cL).gu.ze e;omega
 have hIT:∀(t:Nat) x,P[t]?=some x→∃(r:ei) (Lr:List dr),w8.rangeAt g8 (t*7) (cU x.1 r)∧ez w8 (fun b=>wr.heap.size≤b) r Lr x.1:=fun t x hx=>by
  obtain⟨hC,how,hit,_,MQ⟩:=H8.out;have ht:=(aB.1 hx).1;obtain⟨c,hc⟩:∃c,C[t]?=some c:=⟨_,af (by rw[hC];exact ht)⟩;refine⟨c.1,c.2,fun i u hu=>?_,(hit t x c hx hc).mono (fun _ h=>h.1)⟩;have:=how.cells (g:=g8) rfl (t*7+i) u (Bk (f:=fun p:(fW×ei)×(ei×List dr)=>cU p.1.1 p.2.1) (K:=7) (fun _=>rfl) _ t i (x,c) u (List.getElem?_zip_eq_some.2 ⟨hx,hc⟩) hu);rw[Addr.add_lit,Nat.zero_add] at this;exact this
 have Qh:=cD (cC hIT (cC hg8 hlo));have aiu:pn≤8:=by omega
 have hjp:j+pn≤M:=by omega
 have HJ:=cD (cC hj (cC aiu hjp));have HP8:Hid (pn=P.length):=cD H8.out.2.2.2.2;clear hIT hg8 hlo hnl;have Jl:Hid (∀(t:Nat) x,P[t]?=some x→1≤t→((sP m j).done (wQ x.1)).1=sP m j∧((sP m j).done (wQ x.1)).2.e=62):=cD (fun t x hx ht=>by
  have:=HM.out.2.1.Xz HM.out.2.2 (j:=j) (k:=j+t) (by rw[←HM.out.1];exact hj) (HNG.out t x hx).1 cK;rw[this];exact⟨rfl,rfl⟩)
 go_upto_region 15 with fail
 go_cut [82] (fun v wc=>v=.F∧Hid (Ns w2 w8 wc ba bb m j (61+3*j) (fun k=>(AT 1).Z k)))
 case first=>
  rcases(show pn=1∨2≤pn by omega) with hp1|hp1
  ·have tp1:decide (1<(pn:Int))=false:=by simp;omega
   have YJ:Hid (Ns w2 w8 w8 ba bb m j (61+3*j) (fun k=>(AT 1).Z k)):=cD (HT8.out.more cK);go_wp2_with fail
   go_meet
   case rel=>exact⟨rfl,YJ⟩
  have tp1:decide (1<(pn:Int))=true:=by simp;omega
  obtain⟨z,hz⟩:=cF (q % (pn - 1));have hz1:z<pn - 1:=by rw[hz];exact Nat.mod_lt _ cK
  have tq:∀_:True,IntKind.i64.wrap (q:Int)=(q:Int):=fun _=>by rw[IntKind.wrap_i64];omega
  have tz:∀_:True,(q:Int).tmod ((pn:Int) - 1)=(z:Int):=fun _=>by
   rw[hz,show((pn:Int) - 1)=((pn - 1:Nat):Int) by omega,Int.tmod_eq_emod_of_nonneg cK];rfl
  have tne:((pn:Int) - 1==0)=false:=by simp;omega
  obtain⟨x,hx⟩:∃x,P[1+z]?=some x:=⟨_,af (by rw[←HP8.out];omega)⟩;obtain⟨r,Lr,fS,O8⟩:=Qh.out.1 (1+z) x hx;obtain⟨s1,s2⟩:=Jl.out (1+z) x hx cK;obtain⟨A8,hF8,hK8,hz8⟩:=HT8.out;have UX:Hid (au prog 13 #[.p bb,.agg #[.b 4,.U,.U,.I,.U,.B,.z,.n,.I,.F,.F,.n,.i x.1.ew,.v x.1.seq,.i x.1.dO,.v x.1.ep,.slice r.sa x.1.de.length r.sc,.slice r.ea x.1.dF.length r.ec,.u x.1.cl,.I,.I,.V,.n]] w8 (Ng w2 w8 w8 ba bb m j (60+3*j) A8 (fun k=>(AT 1).Z k) x.1)):=cD (Fo hF8 hK8 hz8 cK (HM.out.2.2.own _ _ (HNG.out (1+z) x hx).1).2.2 O8 Qh.out.2.2);have nT:=cD fS;have afr:=cD (cC s1 s2);clear hz fS O8 s1 s2 hF8 hK8 hz8 hx;go_wp2_with (first
   |(refine AO 40 (.tmp 75) rfl g8 ((1+z)*7) rfl [.i x.1.ew,.v x.1.seq,.i x.1.dO,.v x.1.ep,.slice r.sa x.1.de.length r.sc,.slice r.ea x.1.dF.length r.ec,.u x.1.cl] _ nT.out underlying40 rfl HSI.out ?_)
   |fail)
  refine UX.out.mono ?_;rintro e w9 ⟨Z,rfl,hzl,h23,qG,_⟩;rw[afr.out.2] at h23;obtain⟨RR,AY,UP⟩:=rK hzl h23;have f1:=AY w9;have f2:=UP w9;have YJ:Hid (Ns w2 w8 w9 ba bb m j (61+3*j) (fun k=>(AT 1).Z k)):=cD ((qG j afr.out.1).more cK);clear hzl h23 qG AY UP UX nT tq tz tne hz1;go_wp2_with fail
  go_meet
  case rel=>exact⟨rfl,YJ⟩
 obtain⟨rfl,YJ⟩:=hcut;go_wp2_with fail
 go_loopw [10,12] (fun av iv wr=>∃t:Nat,t≤pn∧av=.v (j+t:Nat)∧iv=.i t∧Hid (Ns w2 w8 wr ba bb m (j+t) (61+3*j+2*t) (fun k=>(AT 1).Z k))) (fun _ iv _=>pn - (intOf iv).toNat)
 case atStart=>exact⟨0,by omega,rfl,rfl,YJ⟩
 obtain⟨t,ht,rfl,rfl,HQ⟩:=hrel;by_cases hlt:t<pn
 ·have ahs:decide ((t:Int)<(pn:Int))=true:=by simp;omega
  obtain⟨x,hx⟩:∃x,P[t]?=some x:=⟨_,af (by rw[←HP8.out];exact hlt)⟩;obtain⟨r,Lr,fS,O8⟩:=Qh.out.1 t x hx;obtain⟨hown,aiv,hseq⟩:=HNG.out t x hx;have hdo:=HM.out.2.1.takes HM.out.2.2 (j:=j+t) hown;have aeg:=HM.out.2.1.Xz HM.out.2.2 (j:=j+t+1) (k:=j+t) (by rw[←HM.out.1];have:=HJ.out.2.2;omega) hown cK;have DA:=(HM.out.2.2.own _ _ hown).2.2;obtain⟨A9,hF9,Ph,hz9⟩:=HQ.out;obtain⟨wa,wb,vO,Cr,hkb,jt,sA,ad8⟩:=DY wr [.b 4,.U,.U,.I,.U,.B,.z,.n,.I,.F,.F,.n,.i x.1.ew,.v x.1.seq,.i x.1.dO,.v x.1.ep,.slice r.sa x.1.de.length r.sc,.slice r.ea x.1.dF.length r.ec,.u x.1.cl,.I,.I,.V,.n] rfl;have hn9:¬(A9 1).Z wr.heap.size:=fun e=>by have:=(hF9.gs 1 cL).gu.ze e;omega
  have Xu:Hid (au prog 13 #[.p bb,.agg #[.b 4,.U,.U,.I,.U,.B,.z,.n,.I,.F,.F,.n,.i x.1.ew,.v x.1.seq,.i x.1.dO,.v x.1.ep,.slice r.sa x.1.de.length r.sc,.slice r.ea x.1.dF.length r.ec,.u x.1.cl,.I,.I,.V,.n]] wb (Ng w2 w8 wb ba bb m (j+t) (61+3*j+2*t) A9 (fun k=>(AT 1).Z k) x.1)):=cD (Fo (hF9.below jt) (Ph.chain (T:=fun _=>False) (dA jt) (fun _ _ e=>e.elim)) hz9 cK DA O8 Qh.out.2.2);have nT:=cD (HQ.out.row fS Qh.out.2.1.2 (Qh.out.2.2 g8 Qh.out.2.1.1));have HRB:=cD (dJ hkb);have hone:(([.b 4,.U,.U,.I,.U,.B,.z,.n,.I,.F,.F,.n,.i x.1.ew,.v x.1.seq,.i x.1.dO,.v x.1.ep,.slice r.sa x.1.de.length r.sc,.slice r.ea x.1.dF.length r.ec,.u x.1.cl,.I,.I,.V,.n]:List aC).toArray:Array aC).all (·.oneCell')=true:=by simp[aH]
  have nU:=cD (cC vO (cC Cr (cC sA (cC ad8 hone))));have BQ:=cD (cC hdo (cC aeg (cC DA (cC O8 (cC fS (cC hseq (cC hn9 hkb)))))));clear hx fS O8 hown aiv hseq hdo aeg DA hF9 Ph hz9 vO Cr hkb jt sA ad8 hn9 hone HQ;go_upto_region 21 with (first
   |(refine ay rfl 40 (.tmp 91) rfl g8 (t*7) rfl [.i x.1.ew,.v x.1.seq,.i x.1.dO,.v x.1.ep,.slice r.sa x.1.de.length r.sc,.slice r.ea x.1.dF.length r.ec,.u x.1.cl] _ nT.out underlying40 rfl HSI.out ?_)
   |(rw[←nU.out.1];refine ah rfl 42 (.tmp 13) (.tmp 93) rfl wr.heap.size 0 #[.b 4,.U,.U,.I,.U,.B,.z,.n,.I,.F,.F,.n,.i x.1.ew,.v x.1.seq,.i x.1.dO,.v x.1.ep,.slice r.sa x.1.de.length r.sc,.slice r.ea x.1.dF.length r.ec,.u x.1.cl,.I,.I,.V,.n] rfl rfl nU.out.2.2.1 nU.out.2.2.2.1 nU.out.2.2.2.2 ?_;rw[←nU.out.2.1])
   |fail)
  go_wp2_with (first
   |(refine ay rfl 42 (.tmp 13) rfl wr.heap.size 0 rfl [.b 4,.U,.U,.I,.U,.B,.z,.n,.I,.F,.F,.n,.i x.1.ew,.v x.1.seq,.i x.1.dO,.v x.1.ep,.slice r.sa x.1.de.length r.sc,.slice r.ea x.1.dF.length r.ec,.u x.1.cl,.I,.I,.V,.n] _ HRB.out underlying42 rfl Cb.out ?_)
   |fail)
  refine Xu.out.mono ?_;rintro e x1 ⟨Z,rfl,hzl,h23,qG,nJ⟩;rw[BQ.out.1] at h23 qG;obtain⟨RR,AY,UP⟩:=rK hzl h23;have f1:=AY x1;have f2:=UP x1;obtain⟨A10,aeE,WD,adb⟩:=qG (j+t+1) rfl;have HC2:Hid (au prog 13 #[.p bb,.agg #[.b 4,.U,.U,.I,.U,.B,.z,.n,.I,.F,.F,.n,.i x.1.ew,.v x.1.seq,.i x.1.dO,.v x.1.ep,.slice r.sa x.1.de.length r.sc,.slice r.ea x.1.dF.length r.ec,.u x.1.cl,.I,.I,.V,.n]] x1 (Ng w2 w8 x1 ba bb m (j+t+1) (61+3*j+2*t+1) A10 (fun k=>(AT 1).Z k) x.1)):=cD (Fo aeE WD adb cK BQ.out.2.2.1 BQ.out.2.2.2.1 Qh.out.2.2);have aka:=cD (dJ (nJ _ _ BQ.out.2.2.2.2.2.2.2 BQ.out.2.2.2.2.2.2.1));clear hzl h23 qG nJ AY UP aeE WD adb;go_wp2_with (first
   |(refine AO 42 (.tmp 13) rfl wr.heap.size 0 rfl [.b 4,.U,.U,.I,.U,.B,.z,.n,.I,.F,.F,.n,.i x.1.ew,.v x.1.seq,.i x.1.dO,.v x.1.ep,.slice r.sa x.1.de.length r.sc,.slice r.ea x.1.dF.length r.ec,.u x.1.cl,.I,.I,.V,.n] _ aka.out underlying42 rfl Cb.out ?_)
   |fail)
  refine HC2.out.mono ?_;rintro e x2 ⟨Z2,rfl,hzl,h23,qG,_⟩;rw[BQ.out.2.1] at h23 qG;obtain⟨RR2,AY,UP⟩:=rK hzl h23;have f3:=AY x2;have f4:=UP x2;have Jf:=qG (j+t+1) rfl;have Sv:=Jf.row BQ.out.2.2.2.2.1 Qh.out.2.1.2 (Qh.out.2.2 g8 Qh.out.2.1.1);have z1:x2.cell? ⟨g8,t*7+1,none⟩=some (.v ((j+(t+1):Nat):Int)):=by
   have:=Sv 1 _ rfl;rw[BQ.out.2.2.2.2.2.1] at this;exact this
  have HN:Hid (Ns w2 w8 x2 ba bb m (j+(t+1)) (61+3*j+2*(t+1)) (fun k=>(AT 1).Z k)):=cD Jf;clear hzl h23 qG AY UP Jf Sv f1 f2;go_wp2_with fail
  go_roundw
  case rel=>exact⟨t+1,by omega,rfl,by go_num,HN⟩
  case measure=>simp[intOf];omega
 obtain rfl:t=pn:=by omega
 have ahs:decide ((t:Int)<(t:Int))=false:=by simp
 have HN:Hid (FoT w2 wr ba bb m (j+t) (60+3*(j+t))):=cD (HQ.out.t.more cK);have hjt:j+t≤M:=HJ.out.2.2;clear HQ hlt;go_wp2_with fail
 go_roundw
 case rel=>exact⟨j+t,hjt,rfl,HN⟩
 case measure=>simp[intOf];omega
end
