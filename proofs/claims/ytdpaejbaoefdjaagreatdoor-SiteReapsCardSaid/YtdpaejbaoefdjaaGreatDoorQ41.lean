/- Part 41. -/
import Derived.Test.YtdpaejbaoefdjaaGreatDoorQ38
import Derived.Test.YtdpaejbaoefdjaaGreatDoorQ34
open List renaming toList_toArray → aa,length_append → af,getElem?_append_right → aq,getElem?_append_left → aC,getElem?_eq_getElem → aF,mem_of_getElem? → aG
open Go renaming wpList_store_mid → ag,World → an,heap_alloc_new → au,Calls → ay,wpList_load_mid → aA,Value → aB,cell_of_row → aD
open Nat renaming le_refl → ah
open Go.RowKit.Below renaming refl → aj
open Go.World renaming block_lt_of_cell? → aE
namespace Go.Proofs.YtdpaejbaoefdjaaGreatDoor
open Go.Proofs.Tryz
set_option maxRecDepth 100000
set_option maxHeartbeats 64000000
set_option linter.unusedVariables false
set_option linter.unusedSimpArgs false
section
open Go.RowKit Go.Shelf Go.MapKept Go.ChangeMaps
structure jj where
 X:iS
 o:cV
 i:dS
 L:List cZ
 fa:Option Addr
 fc:Nat
def jj.cells(x:jj):List aB:=x.X.cells x.o x.i x.fa x.fc
def CC(w:an)(a:Option Addr)(L:List jj):Prop:=∀(k:Nat) x,L[k]?=some x→∃b off,a=some ⟨b,off,none⟩∧b<w.heap.size∧w.rangeAt b (off+k*23) x.cells∧nV w x.X x.o x.i x.L x.fa∧jz w x.o x.X.od
theorem qs{w:an}{n:Nat}{r:cV}{D:cP}(h:pY w n r D):∀j,j<r.pn→∃b off q,r.pa=some ⟨b,off,none⟩∧b<w.heap.size∧w.rangeAt b (off+j*7) (cV.cells q):=fun j hj=>by
 cases n with
 |zero=>exact h.elim
 |succ n=>
  obtain⟨o,Ds,_,_,_,h4,h5⟩:=h;obtain⟨b,off,q,g1,g2,g3,_⟩:=h5 j _ (aF cL);exact⟨b,off,q,g1,g2,g3⟩
def VR(n:Nat)(w:an)(e:Ending)(w':an):Prop:=(∃g,e=.returned (.bool g)∧(g=false→n≤60))∧cF w w'
theorem IP(w:an)(a:Option Addr)(c:Nat)(L:List jj)(hat:CC w a L)(hl:L.length≤maxLen):
  ay prog 11 #[.slice a L.length c] w (VR L.length w):=by
 obtain⟨n,hn⟩:=cG L.length;rw[←hn];rw[←hn] at hl;unfold maxLen at hl;have HA:=cE (cD hat hn);have Ah:Hid (cH 42 23):=cE cK;clear hat hn;by_cases h60:60<n
 ·have t1:decide ((60:Int)<(n:Int))=true:=by simp;omega
  clear h60;go_enter func11,ntmps11
  go_wp2
  go_ret
  exact⟨⟨_,rfl,fun h=>by cases h⟩,aj _ _⟩
 have t0:decide ((60:Int)<(n:Int))=false:=by simp;omega
 have Ud:n≤60:=by omega
 clear h60 hl;go_enter func11,ntmps11
 go_wp2_with fail
 go_loopw [3] (fun iv wr=>∃k:Nat,k≤n∧iv=.i k∧Hid (cF w wr)) (fun iv _=>n - (intOf iv).toNat)
 case atStart=>exact⟨0,by omega,rfl,cE (aj _ _)⟩
 obtain⟨k,hk,rfl,HS⟩:=hrel;by_cases hlt:k<n
 ·obtain⟨x,hx⟩:∃x,L[k]?=some x:=⟨_,aF (by rw[←HA.out.2];exact hlt)⟩
  obtain⟨b,off,ha,hb,eW,hin,_⟩:=HA.out.1 k x hx;subst ha;have hrw:=dA eW HS.out hb;obtain⟨X,⟨ok,op,oa,on,oc,ov,os,oe,pa,pn,pc⟩,⟨sa,sc,ea,ec⟩,Li,fa,fc⟩:=x;obtain⟨dn,hop⟩:=(hin.below HS.out).op;have uz:=qs hop;dsimp only at uz;obtain⟨CS,kI⟩:∃l,l=jj.cells ⟨X,⟨ok,op,oa,on,oc,ov,os,oe,pa,pn,pc⟩,⟨sa,sc,ea,ec⟩,Li,fa,fc⟩:=⟨_,rfl⟩;obtain⟨sn,C8⟩:∃m,m=X.dY.stamp.length:=⟨_,rfl⟩;obtain⟨en,BO⟩:∃m,m=X.dY.dB.length:=⟨_,rfl⟩;obtain⟨fn,hfn⟩:∃m,m=X.fr.length:=⟨_,rfl⟩;have Ad:CS.length=23:=by rw[kI];rfl
  have hone:(CS.toArray:Array aB).all (·.oneCell')=true:=by rw[kI];simp[jj.cells,iS.cells,gF,Value.oneCell']
  have q6:CS[6]?=some (.s op):=by rw[kI];rfl
  have q7:CS[7]?=some (.slice oa on oc):=by rw[kI];rfl
  have q11:CS[11]?=some (.slice pa pn pc):=by rw[kI];rfl
  have q16:CS[16]?=some (.slice sa sn sc):=by rw[kI,C8];rfl
  have V0:CS[17]?=some (.slice ea en ec):=by rw[kI,BO];rfl
  have q22:CS[22]?=some (.slice fa fn fc):=by rw[kI,hfn];rfl
  rw[←kI] at hrw;obtain⟨w1,hw1⟩:∃a,a=wr.alloc (.cells #[.B,.U,.U,.I,.U,.B,.z,.n,.I,.F,.F,.n,.I,.V,.I,.V,.n,.n,.U,.I,.I,.V,.n] 42):=⟨_,rfl⟩;have k1:w1.heap[wr.heap.size]?=some (.cells #[.B,.U,.U,.I,.U,.B,.z,.n,.I,.F,.F,.n,.I,.V,.I,.V,.n,.n,.U,.I,.I,.V,.n] 42 (0,0)):=by rw[hw1];exact au wr _
  have de:cF wr w1:=by rw[hw1];exact cR (aj _ wr) _
  obtain⟨w2,eS⟩:∃a,a=w1.setCells wr.heap.size 0 CS:=⟨_,rfl⟩;have k2:w2.heap[wr.heap.size]?=some (.cells CS.toArray 42 (0,0)):=by rw[eS];exact fG k1 Ad
  have dz:cF wr w2:=by rw[eS];exact iy (w1:=wr) de 0 _ (ah _)
  have mX:=cE hrw;have me:=cE hw1;have lS:=cE eS;have Ag:Hid (cH 42 CS.length):=cE (by rw[Ad];exact Ah.out);have YS:Hid (cH 42 CS.toArray.size):=cE (by rw[show CS.toArray.size=23 by simpa using Ad];exact Ah.out);have HT:Hid (w1.there wr.heap.size 0 CS.toArray.size):=cE (by rw[show CS.toArray.size=23 by simpa using Ad];exact dR k1 0 23 cN);have gu:=cE hone;have hcell:∀j v,CS[j]?=some v→w2.cell? ⟨wr.heap.size,j,none⟩=some v:=fun j v hv=>by
   rw[aD _ _ j _ 42 (0,0) k2];simpa using hv
  have z6:=hcell 6 _ q6;have z7:=hcell 7 _ q7;have z11:=hcell 11 _ q11;have z16:=hcell 16 _ q16;have z17:=hcell 17 _ V0;have z22:=hcell 22 _ q22;have YW:Hid (∀j,j<pn→∃b off q,pa=some ⟨b,off,none⟩∧w2.rangeAt b (off+j*7) (cV.cells q)):=cE (fun j hj=>by
   obtain⟨b,off,q,g1,g2,g3⟩:=uz j hj;exact⟨b,off,q,g1,dA g3 dz g2⟩)
  have Dv:=cE (HS.out.trans (dz.mono HS.out.size));have Y8:decide ((k:Int)<(n:Int))=true:=by simp;omega
  have ajr:decide (k<n)=true:=by simp;omega
  clear hx hb eW hrw hin hop uz kI C8 BO hfn Ad hone q6 q7 q11 q16 V0 q22 hw1 k1 de eS k2 dz hcell;go_upto_region 7 with (first
   |(rw[←me.out];refine ag rfl 42 (.tmp 4) (.tmp 18) rfl wr.heap.size 0 CS.toArray rfl rfl HT.out YS.out gu.out ?_;rw[aa,←lS.out])
   |(refine aA rfl 42 (.tmp 17) rfl b (off+k*23) rfl CS _ mX.out underlying42 rfl Ag.out ?_)
   |fail)
  by_cases Rc:decide ((200:Int)<((bs op).size:Int))=true
  ·go_wp2_with fail
   go_ret
   exact⟨⟨_,rfl,fun h=>by cases h⟩,Dv.out⟩
  replace Rc:decide ((200:Int)<((bs op).size:Int))=false:=by simpa using Rc
  by_cases U1:decide ((200:Int)<(on:Int))=true
  ·go_wp2_with fail
   go_ret
   exact⟨⟨_,rfl,fun h=>by cases h⟩,Dv.out⟩
  replace U1:decide ((200:Int)<(on:Int))=false:=by simpa using U1
  by_cases Mr:decide ((10:Int)<(pn:Int))=true
  ·go_wp2_with fail
   go_ret
   exact⟨⟨_,rfl,fun h=>by cases h⟩,Dv.out⟩
  replace Mr:decide ((10:Int)<(pn:Int))=false:=by simpa using Mr
  by_cases U0:decide ((20:Int)<(en:Int))=true
  ·go_wp2_with fail
   go_ret
   exact⟨⟨_,rfl,fun h=>by cases h⟩,Dv.out⟩
  replace U0:decide ((20:Int)<(en:Int))=false:=by simpa using U0
  by_cases UZ:decide ((10:Int)<(sn:Int))=true
  ·go_wp2_with fail
   go_ret
   exact⟨⟨_,rfl,fun h=>by cases h⟩,Dv.out⟩
  replace UZ:decide ((10:Int)<(sn:Int))=false:=by simpa using UZ
  by_cases UY:decide ((10:Int)<(fn:Int))=true
  ·go_wp2_with fail
   go_ret
   exact⟨⟨_,rfl,fun h=>by cases h⟩,Dv.out⟩
  replace UY:decide ((10:Int)<(fn:Int))=false:=by simpa using UY
  have ZD:pn≤10:=by have:=Mr;simp at this;omega
  go_wp2_with fail
  go_loopw [5] (fun jv wr2=>∃j:Nat,j≤pn∧jv=.i j∧Hid (wr2=w2)) (fun jv _=>pn - (intOf jv).toNat)
  case atStart=>exact⟨0,by omega,rfl,cE rfl⟩
  obtain⟨j,hj,rfl,HE⟩:=hrel;obtain rfl:=HE.out;by_cases hjt:j<pn
  ·have tj:decide ((j:Int)<(pn:Int))=true:=by simp;omega
   have tjn:decide (j<pn)=true:=by simp;omega
   obtain⟨gb,go_,⟨pk,pp,da,dn,dc,pv,Zi,Zj,ga,gn,gc⟩,hqa,eW⟩:=YW.out j hjt;subst hqa;have v1:=eW 1 _ rfl;have v2:=eW 2 _ rfl;have v6:=eW 6 _ rfl;clear eW;go_upto_region 12 with fail
   by_cases Re:decide ((200:Int)<((bs pp).size:Int))=true
   ·go_wp2_with fail
    go_ret
    exact⟨⟨_,rfl,fun h=>by cases h⟩,Dv.out⟩
   replace Re:decide ((200:Int)<((bs pp).size:Int))=false:=by simpa using Re
   by_cases U3:decide ((200:Int)<(dn:Int))=true
   ·go_wp2_with fail
    go_ret
    exact⟨⟨_,rfl,fun h=>by cases h⟩,Dv.out⟩
   replace U3:decide ((200:Int)<(dn:Int))=false:=by simpa using U3
   by_cases U2:decide ((2:Int)<(gn:Int))=true
   ·go_wp2_with fail
    go_ret
    exact⟨⟨_,rfl,fun h=>by cases h⟩,Dv.out⟩
   replace U2:decide ((2:Int)<(gn:Int))=false:=by simpa using U2
   go_wp2_with fail
   go_roundw
   case rel=>exact⟨j+1,by omega,by go_num,cE trivial⟩
   case measure=>simp[intOf];omega
  obtain rfl:j=pn:=by omega
  go_wp2_with fail
  go_roundw
  case rel=>exact⟨k+1,by omega,by go_num,Dv⟩
  case measure=>simp[intOf];omega
 obtain rfl:k=n:=by omega
 go_wp2_with fail
 go_ret
 exact⟨⟨_,rfl,fun _=>by omega⟩,HS.out⟩
def oQ(k:Int)(p:cP):cV:=⟨k,p,none,0,0,0,false,false,none,0,0⟩
def EM:dS:=⟨none,0,none,0⟩
theorem kL(w:an)(kind:Nat)(k:Int)(p:cP)(ep:Nat){fr:List Nat}{fa:Option Addr}(hfr:dr w (fun _=>True) fa fr)(h1:kind<256)(h2:0≤k∧k<256)(h3:p.length≤64)(h4:ep<1000)(h5:fr.length≤1000)(h6:Cu fr):
  nV w (gX kind (gO k p) ep fr) (oQ k p) EM [] fa∧jz w (oQ k p) (gX kind (gO k p) ep fr).od:=by
 have hnb:∀lo hi a,eB w lo hi a []:=fun lo hi a j c hj=>by simp at hj
 refine⟨⟨⟨1,gO k p,[],⟨rfl,rfl,rfl,rfl,rfl,rfl,hnb _ _ _,fun _=>⟨rfl,rfl⟩⟩,⟨h2,by show -9223372036854775808≤(0:Int);decide,by show(0:Int)<9223372036854775808;decide⟩,rfl,rfl,fun k D hD=>by simp at hD⟩,⟨⟨rfl,fun k v hk=>by simp[ko,gX] at hk,fun v hv=>by simp[ko,gX] at hv⟩,⟨rfl,⟨rfl,fun k r e hk=>by simp at hk⟩,fun k r hk=>by simp at hk,fun e he=>by simp[ko,gX] at he⟩,(by show(0:Nat)<18446744073709551616;decide),(by show(0:Nat)<18446744073709551616;decide),(by show(0:Nat)<4294967296;decide)⟩,⟨rfl,hfr,h6⟩,⟨h1,(by show(0:Nat)<4294967296;decide),(by show(0:Nat)<4294967296;decide),(by show mW 0;exact⟨by decide,by decide⟩),(by show(0:Nat)<4294967296;decide),(by show mW 0;exact⟨by decide,by decide⟩),(by show mW 0;exact⟨by decide,by decide⟩),by show ep<_;omega,(by show mW 0;exact⟨by decide,by decide⟩),(by show mW 0;exact⟨by decide,by decide⟩)⟩,?_⟩,[],fun _=>true,fun k c hk=>by simp at hk,rfl,(by show(0:Nat)≤1000000000;decide),?_,fun W hW k x hx=>by simp at hx⟩
 ·show(opHead (gO k p)++(dI 8 0++[])).length+jY ko+8*fr.length≤50000000
  rw[af,jQ];have e1:(gO k p).path.length=p.length:=rfl;have e2:(gO k p).data.length=0:=rfl;have e3:(dI 8 0++[]).length=8:=by simp[dw]
  have e4:jY ko=0:=rfl;omega
 show true=oA (oQ k p) 6 (fun _=>true);unfold oA oQ;simp[h3]
theorem sB{w:an}(mx:dG w)(pow:gB w){ao:Option Addr}{c:Nat}{L:List cP}(hS:gA w w.heap.size ao L)(s n:Nat)(hL:L.length≤1000∧∀r∈L,r.length≤1000)(h0:sX s n L=0):
  ay prog 12 #[.i s,.i n,.slice ao L.length c] w fun e w'=>cF w w'∧∃A:MA,e=.returned (.tuple #[.p A.mb,.I])∧cU w w' A (cS.new s n L)∧∀b,A.Z b→w.heap.size≤b:=by
 refine(Pd (aj _ w) mx pow (c:=c) hL.1 hL.2 hS s n).mono ?_;rintro e w' ⟨hb,⟨h1,_⟩|⟨_,A,he,hA,_,hz⟩⟩
 ·exact absurd h0 h1
 rw[Int.toNat_natCast,Int.toNat_natCast] at hA;exact⟨hb,{A with X:=fun _=>False},he,hA _ (fun _ e=>e.elim),hz⟩
theorem cS.Ok.done{m:cS}{N:Nat}(ok:m.Ok N)(hN:N≤1000000)(X:iS):(m.done X).1.Ok (N+1):=by
 unfold cS.done;by_cases h:FD X=0
 ·rw[if_pos h]
  have h1:=(FB h).2.1;unfold mE at h1;simp only[Bool.and_eq_true] at h1;exact ok.apply hN (ox h1.1)
 rw[if_neg h];exact ok.mono cL
structure Bx where
 b:Nat
 t:TypeId
 cs:List aB
structure GS(w0 w:an)(mb:Nat)(A:MA)(m:cS)(N:Nat)(L:List Bx)(S:List (Option Addr×List Nat)):Prop where
 ID:A.mb=mb
 fS:cU w0 w A m
 ok:m.Ok N
 box:∀x∈L,w.heap[x.b]?=some (.cells x.cs.toArray x.t (0,0))∧¬A.Z x.b∧x.t≠40
 sts:∀x∈S,dr w (fun b=>¬A.Z b) x.1 x.2
section
variable{w0 w:World}{mb:Nat}{A:MA}{m:cS}{N:Nat}{L:List Bx}{S:List (Option Addr×List Nat)}
theorem GS.below(h:GS w0 w mb A m N L S){w':an}(hb:cF w w'):GS w0 w' mb A m N L S:=
 ⟨h.ID,h.fS.below hb,h.ok,fun x hx=>⟨(hb.block _ (lt_of_block (h.box x hx).1)).trans (h.box x hx).1,(h.box x hx).2⟩,fun x hx=>(h.sts x hx).below hb⟩
structure OQ(w':an)(lo:Nat→Prop)(x:jt)(Z:List aB):Prop where
 len:Z.length=43
 one:(Z.toArray:Array aB).all (·.oneCell')=true
 err:Z[23]?=some (.i x.e)
 path:Z[24]?=some (.s x.a.path)
 parts:∃E R r L,Z=E++R++cT x.i r∧E.length=23∧R.length=13∧fA w' mR (.agg R.toArray) x.e x.a x.r∧eu w' lo r L x.i
theorem GS.agN(h:GS w0 w mb A m N L S)(hN:N≤1000000){X:iS}{e:Ending}{w':an}(hd:fq w0 w A (m.done X) e w'):
  ∃Z va vc ov C,e=.returned (.agg Z.toArray)∧OQ w' (fun b=>w.heap.size≤b∧¬(A.PL va vc ov C).Z b) (m.done X).2 Z∧GS w0 w' mb (A.PL va vc ov C) (m.done X).1 (N+1) L S∧Kept A.Z w w'∧(∀b,b<w.heap.size→(A.PL va vc ov C).Z b→A.Z b):=by
 obtain⟨E,R,r,Lr,rfl,hE,hone,hl,hR,hI,⟨va,vc,ov,C,hst,EE⟩,hk⟩:=hd;have hold:∀b,b<w.heap.size→(A.PL va vc ov C).Z b→A.Z b:=fun b hb e=>by
  rcases e with e|e|e|e|e|e
  ·exact .inl e
  ·exact .inr (.inl e)
  ·exact .inr (.inr (.inl e))
  ·exact .inr (.inr (.inr (.inl e)))
  ·exact .inr (.inr (.inr (.inr (.inl e))))
  rcases EE b e with h1|h1
  ·exact A.zo h1
  omega
 refine⟨E++R++cT (m.done X).2.i r,va,vc,ov,C,rfl,⟨?_,wV hone (ry hR),?_,?_,E,R,r,Lr,rfl,hE,hl,hR.mono (fun _ _=>trivial),hI.mono (fun b hb=>⟨hb.1,fun e=>?_⟩)⟩,⟨h.ID,hst,h.ok.done hN X,fun x hx=>?_,fun x hx=>?_⟩,hk,hold⟩
 ·rw[af,af,hE,hl]
  rfl
 ·rw[aC (by rw[af,hE,hl];decide),aq (by rw[hE];decide),hE]
  exact DO hR
 ·rw[aC (by rw[af,hE,hl];decide),aq (by rw[hE];decide),hE]
  obtain⟨rr,ka,kc,pa,pc,h1,_⟩:=hR
  injection h1 with h1
  have h2:R=ez (m.done X).2.e (m.done X).2.a.path rr ka (m.done X).2.a.kids.length kc pa (m.done X).2.r.length pc:=by simpa using congrArg Array.toList h1
  rw[h2];rfl
 ·have de:w.heap.size≤b:=hb.1
  have hz:∀c,A.Z c→c≠b:=fun c hc=>by have:=h.fS.Dx hc;omega
  rcases e with e|e|e|e|e|e
  ·exact hz _ A.zm e.symm
  ·exact hz _ A.zk e.symm
  ·exact hz _ A.zs e.symm
  ·exact hz _ A.zg e.symm
  ·exact hz _ (A.zt e) rfl
  exact hb.2 _ hst.cells.2.2.2.2.2.2 e
 ·obtain⟨h1,h2,h3⟩:=h.box x hx
  exact⟨hk.same h1 h2,fun e=>h2 (hold _ (lt_of_block h1) e),h3⟩
 have h1:=(h.sts x hx).mono (lo':=fun b=>¬A.Z b∧b<w.heap.size) (fun b h1 h2=>⟨h2,h1⟩);exact(h1.kept hk (fun b hb _ e=>hb.1 e)).mono (fun b _ hb e=>hb.1 (hold b hb.2 e))
theorem GS.done(h:GS w0 w mb A m N L S)(hN:N≤1000000){X:iS}{e:Ending}{w':an}(hd:fq w0 w A (m.done X) e w'):
  ∃Z A',e=.returned (.agg Z.toArray)∧OQ w' (fun b=>w.heap.size≤b∧¬A'.Z b) (m.done X).2 Z∧GS w0 w' mb A' (m.done X).1 (N+1) L S∧Kept A.Z w w'∧(∀b,b<w.heap.size→A'.Z b→A.Z b):=by
 obtain⟨Z,va,vc,ov,C,h1⟩:=h.agN hN hd;exact⟨Z,_,h1⟩
theorem GS.push(h:GS w0 w mb A m N L S){w':an}(hb:cF w w'){n:Nat}(hn:w.heap.size≤n){t:TypeId}{cs:List aB}(hk:w'.heap[n]?=some (.cells cs.toArray t (0,0)))(ht:t≠40):GS w0 w' mb A m N (L++[⟨n,t,cs⟩]) S:=by
 have h1:=h.below hb;refine⟨h1.ID,h1.fS,h1.ok,fun x hx=>?_,h1.sts⟩;rcases List.mem_append.1 hx with hx|hx
 ·exact h1.box x hx
 simp at hx;subst hx;exact⟨hk,fun e=>by have:=h.fS.Dx (show A.Z n from e);omega,ht⟩
theorem GS.call(h:GS w0 w mb A m N L S)(hN:N≤80000){X:iS}{o:cV}{i:dS}{Li:List cZ}{fa:Option Addr}{fc:Nat}(hX:nV w X o i Li fa)(hM:jz w o X.od):
  ay prog 13 #[.p mb,.agg (X.cells o i fa fc).toArray] w (fq w0 w A (m.done X)):=by
 have:=U5 h.fS h.ok hN (fc:=fc) hX hM
 rwa [h.ID] at this
theorem GS.yJ(h:GS w0 w mb A m N L S){a:Option Addr}{V:List Nat}(ha:dr w (fun b=>¬A.Z b) a V):GS w0 w mb A m N L (S++[(a,V)]):=⟨h.ID,h.fS,h.ok,h.box,fun x hx=>by
 rcases List.mem_append.1 hx with hx|hx
 ·exact h.sts x hx
 ·simp at hx
  subst hx;exact ha⟩
theorem GS.cell(h:GS w0 w mb A m N L S){k:Nat}{x:Bx}(hx:L[k]?=some x){j:Nat}{v:aB}(hv:x.cs[j]?=some v):w.cell? ⟨x.b,j,none⟩=some v:=by
 rw[aD _ _ j _ x.t (0,0) (h.box x (aG hx)).1];simpa using hv
theorem GS.range(h:GS w0 w mb A m N L S){k:Nat}{x:Bx}(hx:L[k]?=some x):w.rangeAt x.b 0 x.cs:=dD (h.box x (aG hx)).1
end
theorem OQ.dY{w':an}{lo:Nat→Prop}{x:jt}{Z:List aB}(h:OQ w' lo x Z):∃r L,Z[36]?=some (.i x.i.ew)∧Z[37]?=some (.v x.i.seq)∧Z[40]?=some (.slice r.sa x.i.stamp.length r.sc)∧eu w' lo r L x.i:=by
 obtain⟨E,R,r,L,rfl,hE,hR,_,hI⟩:=h.parts;have e:∀k,(E++R++cT x.i r)[36+k]?=(cT x.i r)[k]?:=fun k=>by
  rw[aq (by rw[af,hE,hR];omega),af,hE,hR,show 36+k - (23+13)=k by omega]
 exact⟨r,L,e 0,e 1,e 4,hI⟩
theorem nR(w:an)(Z:List aB)(hl:Z.length=43):∃wa wb,wa=w.alloc (.cells #[.B,.U,.U,.I,.U,.B,.z,.n,.I,.F,.F,.n,.I,.V,.I,.V,.n,.n,.U,.I,.I,.V,.n,.I,.z,.n,.U,.U,.U,.I,.U,.V,.V,.V,.n,.n,.I,.V,.I,.V,.n,.n,.U] 49)∧wb=wa.setCells w.heap.size 0 Z∧wb.heap[w.heap.size]?=some (.cells Z.toArray 49 (0,0))∧cF w wb∧
  wa.there w.heap.size 0 Z.toArray.size∧(prog.info? 49).map (·.size)=some Z.toArray.size:=by
 have ka:=au w (.cells #[.B,.U,.U,.I,.U,.B,.z,.n,.I,.F,.F,.n,.I,.V,.I,.V,.n,.n,.U,.I,.I,.V,.n,.I,.z,.n,.U,.U,.U,.I,.U,.V,.V,.V,.n,.n,.I,.V,.I,.V,.n,.n,.U] 49);have e:Z.toArray.size=43:=by simpa using hl
 refine⟨_,_,rfl,rfl,fG ka hl,iy (w1:=w) (cR (aj _ w) _) 0 _ (ah _),?_,?_⟩
 ·rw[e]
  exact dR ka 0 43 cN
 rw[e]
 kernel_rfl
theorem E8(w:an)(Z:List aB)(hl:Z.length=23):∃wa wb,wa=w.alloc (.cells #[.B,.U,.U,.I,.U,.B,.z,.n,.I,.F,.F,.n,.I,.V,.I,.V,.n,.n,.U,.I,.I,.V,.n] 42)∧wb=wa.setCells w.heap.size 0 Z∧wb.heap[w.heap.size]?=some (.cells Z.toArray 42 (0,0))∧cF w wb∧
  wa.there w.heap.size 0 Z.toArray.size∧(prog.info? 42).map (·.size)=some Z.toArray.size:=by
 have ka:=au w (.cells #[.B,.U,.U,.I,.U,.B,.z,.n,.I,.F,.F,.n,.I,.V,.I,.V,.n,.n,.U,.I,.I,.V,.n] 42);have e:Z.toArray.size=23:=by simpa using hl
 refine⟨_,_,rfl,rfl,fG ka hl,iy (w1:=w) (cR (aj _ w) _) 0 _ (ah _),?_,?_⟩
 ·rw[e]
  exact dR ka 0 23 cN
 rw[e]
 kernel_rfl
theorem pg{w w':an}{x y:Nat}(h:w'=w.alloc (.cells #[.v (x:Int),.v (y:Int)] 36)):dr w' (fun _=>True) (some ⟨w.heap.size,0,none⟩) [x,y]:=fun k v hk=>by
 have hl:w.heap.size<w'.heap.size:=by rw[h];simp
 refine⟨w.heap.size,0,rfl,trivial,hl,?_⟩;rw[h,aD _ _ _ _ 36 (0,0) (au w _)]
 match k,hk with
 |0,hk=>simp at hk;subst hk;rfl
 |1,hk=>simp at hk;subst hk;rfl
 |k+2,hk=>simp at hk
theorem PR{w0 w:an}{A:MA}{m:cS}(h:cU w0 w A m){s:Nat}(hs:0<s)(ho:m.own.map (·.seq)=[s]):(A.oB m 0).length=1:=by
 have hl:=h.FX;have h1:m.own.length=1:=by have:=congrArg List.length ho;simpa using this
 obtain⟨x,hx⟩:∃x,A.NS m=[x]:=by
  match hI:A.NS m with
  |[x]=>exact⟨x,rfl⟩
  |[]=>rw[hI,h1] at hl;cases hl
  |_::_::_=>rw[hI,h1] at hl;simp at hl
 have h2:x.1.seq=s:=by
  obtain⟨c,g1,_⟩:=wC (A:=A) (m:=m) (i:=0) (x:=x) (by rw[hx];rfl);have g2:(m.own.map (·.seq))[0]?=some x.1.seq:=by rw[List.getElem?_map,g1];rfl
  rw[ho] at g2;simpa using g2.symm
 unfold MA.oB gZ;rw[hx];simp[h2,hs]
theorem UE:UF.Ok 0:=cS.Ok.new cM cM cM (fun r hr=>by
 simp at hr;subst hr
 decide+kernel)
theorem BW{w:an}(mx:dG w)(pow:gB w):ay prog 16 #[] w fun e w'=>e=.returned (.T)∧cF w w':=by
 obtain⟨w1,hw1⟩:∃a,a=w.alloc (.cells #[.string ⟨#[47,114]⟩] 9):=⟨_,rfl⟩;have de:cF w w1:=by rw[hw1];exact cR (aj _ w) _
 have hS:gA w1 w1.heap.size (some ⟨w.heap.size,0,none⟩) [pR]:=fun k p hk=>by
  have h0:k=0:=by have:=(List.getElem?_eq_some_iff.1 hk).1;simp at this;omega
  subst h0;simp at hk;subst hk;exact⟨w.heap.size,0,rfl,by rw[hw1];simp,by rw[hw1];exact aD _ _ 0 _ 9 (0,0) (au w _)⟩
 have Wt:Hid (ay prog 12 #[.I,.i 2,.slice (some ⟨w.heap.size,0,none⟩) 1 1] w1 fun e w'=>cF w1 w'∧∃A:MA,e=.returned (.tuple #[.p A.mb,.I])∧cU w1 w' A UF∧∀b,A.Z b→w1.heap.size≤b):=cE (sB (c:=1) (mx.kept de) (iw pow de) hS 0 2 ⟨by decide,fun r hr=>by simp at hr;subst hr;decide⟩ (fU.2.2.2.2.2.2.2.2.2.2.2));have me:=cE (cD hw1 de);have Ah:Hid (cH 42 23):=cE cK;clear hS hw1 de;go_enter func16,ntmps16
 go_wp2_with (first|rw[←me.out.1]|fail)
 refine Wt.out.mono ?_;rintro e w2 ⟨dz,A0,rfl,hA,_⟩;obtain⟨mb,hmb⟩:∃n,n=A0.mb:=⟨_,rfl⟩;rw[←hmb];have hg:GS w1 w2 mb A0 UF 0 [] []:=⟨hmb.symm,hA,UE,(fun x hx=>by cases hx),(fun x hx=>by cases hx)⟩;obtain⟨wa3,w3,ha3,h3,k3,eE,LM,hz3⟩:=E8 w2 [.b 1,.U,.U,.I,.U,.b 1,.string ⟨#[47,114,47,97]⟩,.n,.I,.F,.F,.n,.I,.V,.I,.V,.n,.n,.U,.I,.I,.V,.n] rfl;have Yd:=hg.push eE (ah _) k3 cM;have HG0:=cE Yd;have ZF:(([.b 1,.U,.U,.I,.U,.b 1,.string ⟨#[47,114,47,97]⟩,.n,.I,.F,.F,.n,.I,.V,.I,.V,.n,.n,.U,.I,.I,.V,.n]:List aB).toArray:Array aB).all (·.oneCell')=true:=by simp[Value.oneCell']
 have HE3:=cE (cD ha3 (cD h3 (cD LM (cD hz3 ZF))));clear ZF;clear hg dz hA hmb ha3 h3 k3 eE LM hz3 Yd;go_upto_region 4 with fail
 go_upto_region 5 with (first
  |(rw[←HE3.out.1];refine ag rfl 42 (.tmp 3) (.tmp 22) rfl w2.heap.size 0 #[.b 1,.U,.U,.I,.U,.b 1,.string ⟨#[47,114,47,97]⟩,.n,.I,.F,.F,.n,.I,.V,.I,.V,.n,.n,.U,.I,.I,.V,.n] rfl rfl HE3.out.2.2.1 HE3.out.2.2.2.1 HE3.out.2.2.2.2 ?_;rw[←HE3.out.2.1])
  |fail)
 have HCa:Hid (ay prog 13 #[.p mb,.agg #[.b 2,.U,.U,.I,.U,.B,.z,.n,.I,.F,.F,.n,.I,.V,.I,.V,.n,.n,.U,.I,.I,.V,.n]] w3 (fq w1 w3 A0 (UF.done Q4))):=cE (HG0.out.call (X:=Q4) (o:=oQ 0 []) (i:=EM) (Li:=[]) (fa:=none) (fc:=0) cM (kL w3 2 0 [] 0 (fr:=[]) (fa:=none) (fun k v hk=>by simp at hk) cM cM cM cM cM (fun v hv=>by simp at hv)).1 (kL w3 2 0 [] 0 (fr:=[]) (fa:=none) (fun k v hk=>by simp at hk) cM cM cM cM cM (fun v hv=>by simp at hv)).2);go_wp2_with (first
  |fail)
 refine HCa.out.mono ?_;rintro e ua hd;obtain⟨Za,A1,rfl,hz,hg,_,_⟩:=GS.done (m:=UF) HG0.out cM hd;obtain⟨va,wa,hv,hw,hk,iQ,p9,hin⟩:=nR ua Za hz.len;have HZa:=cE hz;have Ww:=cE (hg.push iQ (ah _) hk cM);have HEa:=cE (cD hv (cD hw (cD p9 (cD hin hz.one))));clear hd hz hg hv hw hk iQ p9 hin HCa;go_upto_region 6 with (first
  |(rw[←HEa.out.1];refine ag rfl 49 (.tmp 4) (.tmp 25) rfl ua.heap.size 0 Za.toArray rfl rfl HEa.out.2.2.1 HEa.out.2.2.2.1 HEa.out.2.2.2.2 ?_;rw[aa,←HEa.out.2.1])
  |fail)
 have HRb:Hid (wa.rangeAt w2.heap.size 0 [.b 1,.U,.U,.I,.U,.b 1,.string ⟨#[47,114,47,97]⟩,.n,.I,.F,.F,.n,.I,.V,.I,.V,.n,.n,.U,.I,.I,.V,.n]):=cE (Ww.out.range (k:=0) rfl);have HCb:Hid (ay prog 13 #[.p mb,.agg #[.b 1,.U,.U,.I,.U,.b 1,.string ⟨#[47,114,47,97]⟩,.n,.I,.F,.F,.n,.I,.V,.I,.V,.n,.n,.U,.I,.I,.V,.n]] wa (fq w1 wa A1 (gM1.done Mb))):=cE (Ww.out.call (X:=Mb) (o:=oQ 1 PD) (i:=EM) (Li:=[]) (fa:=none) (fc:=0) cM (kL wa 1 1 PD 0 (fr:=[]) (fa:=none) (fun k v hk=>by simp at hk) cM cM cM cM cM (fun v hv=>by simp at hv)).1 (kL wa 1 1 PD 0 (fr:=[]) (fa:=none) (fun k v hk=>by simp at hk) cM cM cM cM cM (fun v hv=>by simp at hv)).2);go_wp2_with (first
  |(refine aA rfl 42 (.tmp 3) rfl w2.heap.size 0 rfl [.b 1,.U,.U,.I,.U,.b 1,.string ⟨#[47,114,47,97]⟩,.n,.I,.F,.F,.n,.I,.V,.I,.V,.n,.n,.U,.I,.I,.V,.n] _ HRb.out underlying42 rfl Ah.out ?_)
  |fail)
 refine HCb.out.mono ?_;rintro e ub hd;obtain⟨Zb,A2,rfl,hz,hg,_,_⟩:=GS.done (m:=gM1) Ww.out cM hd;obtain⟨vb,wb,hv,hw,hk,iQ,p9,hin⟩:=nR ub Zb hz.len;have HZb:=cE hz;have Y1:=cE (hg.push iQ (ah _) hk cM);have HEb:=cE (cD hv (cD hw (cD p9 (cD hin hz.one))));clear hd hz hg hv hw hk iQ p9 hin HCb;go_upto_region 7 with (first
  |(rw[←HEb.out.1];refine ag rfl 49 (.tmp 5) (.tmp 28) rfl ub.heap.size 0 Zb.toArray rfl rfl HEb.out.2.2.1 HEb.out.2.2.2.1 HEb.out.2.2.2.2 ?_;rw[aa,←HEb.out.2.1])
  |fail)
 obtain⟨wr,hwr⟩:∃a,a=wb.alloc (.cells #[.V,.V] 36):=⟨_,rfl⟩;have hbr:cF wb wr:=by rw[hwr];exact cR (aj _ _) _
 have hsr:dr wr (fun _=>True) (some ⟨wb.heap.size,0,none⟩) [0,0]:=pg hwr;have HWR:=cE hwr;have HGr:=cE (Y1.out.below hbr);clear hbr hwr;have HCc:Hid (ay prog 13 #[.p mb,.agg #[.b 5,.U,.U,.I,.U,.B,.z,.n,.I,.F,.F,.n,.I,.V,.I,.V,.n,.n,.U,.I,.I,.v 1,.slice (some ⟨wb.heap.size,0,none⟩) 2 2]] wr (fq w1 wr A2 (gM2.done gXc))):=cE (HGr.out.call (X:=gXc) (o:=oQ 0 []) (i:=EM) (Li:=[]) (fa:=(some ⟨wb.heap.size,0,none⟩)) (fc:=2) cM (kL wr 5 0 [] 1 (fr:=[0,0]) (fa:=some ⟨wb.heap.size,0,none⟩) hsr cM cM cM cM cM (fun v hv=>by simp at hv;omega)).1 (kL wr 5 0 [] 1 (fr:=[0,0]) (fa:=some ⟨wb.heap.size,0,none⟩) hsr cM cM cM cM cM (fun v hv=>by simp at hv;omega)).2);clear hsr;go_wp2_with (first
  |(rw[←HWR.out])
  |fail)
 refine HCc.out.mono ?_;rintro e uc hd;obtain⟨Zc,A3,rfl,hz,hg,_,_⟩:=GS.done (m:=gM2) HGr.out cM hd;obtain⟨vc,wc,hv,hw,hk,iQ,p9,hin⟩:=nR uc Zc hz.len;have HZc:=cE hz;have HG3:=cE (hg.push iQ (ah _) hk cM);have HEc:=cE (cD hv (cD hw (cD p9 (cD hin hz.one))));clear hd hz hg hv hw hk iQ p9 hin HCc;go_upto_region 8 with (first
  |(rw[←HEc.out.1];refine ag rfl 49 (.tmp 6) (.tmp 32) rfl uc.heap.size 0 Zc.toArray rfl rfl HEc.out.2.2.1 HEc.out.2.2.2.1 HEc.out.2.2.2.2 ?_;rw[aa,←HEc.out.2.1])
  |fail)
 have HRd:Hid (wc.rangeAt w2.heap.size 0 [.b 1,.U,.U,.I,.U,.b 1,.string ⟨#[47,114,47,97]⟩,.n,.I,.F,.F,.n,.I,.V,.I,.V,.n,.n,.U,.I,.I,.V,.n]):=cE (HG3.out.range (k:=0) rfl);have HCd:Hid (ay prog 13 #[.p mb,.agg #[.b 1,.U,.U,.I,.U,.b 1,.string ⟨#[47,114,47,97]⟩,.n,.I,.F,.F,.n,.I,.V,.I,.V,.n,.n,.U,.I,.I,.V,.n]] wc (fq w1 wc A3 (gM3.done Mb))):=cE (HG3.out.call (X:=Mb) (o:=oQ 1 PD) (i:=EM) (Li:=[]) (fa:=none) (fc:=0) cM (kL wc 1 1 PD 0 (fr:=[]) (fa:=none) (fun k v hk=>by simp at hk) cM cM cM cM cM (fun v hv=>by simp at hv)).1 (kL wc 1 1 PD 0 (fr:=[]) (fa:=none) (fun k v hk=>by simp at hk) cM cM cM cM cM (fun v hv=>by simp at hv)).2);go_wp2_with (first
  |(refine aA rfl 42 (.tmp 3) rfl w2.heap.size 0 rfl [.b 1,.U,.U,.I,.U,.b 1,.string ⟨#[47,114,47,97]⟩,.n,.I,.F,.F,.n,.I,.V,.I,.V,.n,.n,.U,.I,.I,.V,.n] _ HRd.out underlying42 rfl Ah.out ?_)
  |fail)
 refine HCd.out.mono ?_;rintro e ud hd;obtain⟨Zd,A4,rfl,hz,hg,_,_⟩:=GS.done (m:=gM3) HG3.out cM hd;obtain⟨vd,wd,hv,hw,hk,iQ,p9,hin⟩:=nR ud Zd hz.len;obtain⟨rd,Ld,_,q37,q40,hid⟩:=hz.dY;rw[fU.2.2.2.2.2.1] at q37;rw[fU.2.2.2.2.2.2.1] at q40;have hst:=hid.stamp;have HZd:=cE (cD hz (cD q37 q40));have hg2:=hg.yJ (a:=rd.sa) (V:=[0,0]) (by
  have:=hst;rw[fU.2.2.2.2.2.2.1] at this;exact this.mono (fun b _ hb=>hb.2))
 have HG4:=cE (hg2.push iQ (ah _) hk cM);clear hg2 hst hid q37 q40;have HEd:=cE (cD hv (cD hw (cD p9 (cD hin hz.one))));clear hd hz hg hv hw hk iQ p9 hin HCd;go_upto_region 9 with (first
  |(rw[←HEd.out.1];refine ag rfl 49 (.tmp 7) (.tmp 35) rfl ud.heap.size 0 Zd.toArray rfl rfl HEd.out.2.2.1 HEd.out.2.2.2.1 HEd.out.2.2.2.2 ?_;rw[aa,←HEd.out.2.1])
  |fail)
 have HCf:Hid (ay prog 13 #[.p mb,.agg #[.b 6,.U,.U,.I,.U,.B,.z,.n,.I,.F,.F,.n,.I,.V,.I,.V,.n,.n,.U,.I,.I,.v 1,.n]] wd (fq w1 wd A4 (gM4.done gXf))):=cE (HG4.out.call (X:=gXf) (o:=oQ 0 []) (i:=EM) (Li:=[]) (fa:=none) (fc:=0) cM (kL wd 6 0 [] 1 (fr:=[]) (fa:=none) (fun k v hk=>by simp at hk) cM cM cM cM cM (fun v hv=>by simp at hv)).1 (kL wd 6 0 [] 1 (fr:=[]) (fa:=none) (fun k v hk=>by simp at hk) cM cM cM cM cM (fun v hv=>by simp at hv)).2);go_wp2_with (first
  |fail)
 refine HCf.out.mono ?_;rintro e uf hd;obtain⟨Zf,A5,rfl,hz,hg,_,_⟩:=GS.done (m:=gM4) HG4.out cM hd;obtain⟨vf,wf,hv,hw,hk,iQ,p9,hin⟩:=nR uf Zf hz.len;have HZf:=cE hz;have HG5:=cE (hg.push iQ (ah _) hk cM);have HEf:=cE (cD hv (cD hw (cD p9 (cD hin hz.one))));clear hd hz hg hv hw hk iQ p9 hin HCf;go_upto_region 10 with (first
  |(rw[←HEf.out.1];refine ag rfl 49 (.tmp 8) (.tmp 38) rfl uf.heap.size 0 Zf.toArray rfl rfl HEf.out.2.2.1 HEf.out.2.2.2.1 HEf.out.2.2.2.2 ?_;rw[aa,←HEf.out.2.1])
  |fail)
 have HRg:Hid (wf.rangeAt w2.heap.size 0 [.b 1,.U,.U,.I,.U,.b 1,.string ⟨#[47,114,47,97]⟩,.n,.I,.F,.F,.n,.I,.V,.I,.V,.n,.n,.U,.I,.I,.V,.n]):=cE (HG5.out.range (k:=0) rfl);have HCg:Hid (ay prog 13 #[.p mb,.agg #[.b 1,.U,.U,.I,.U,.b 1,.string ⟨#[47,114,47,97]⟩,.n,.I,.F,.F,.n,.I,.V,.I,.V,.n,.n,.U,.I,.I,.V,.n]] wf (fq w1 wf A5 (gM5.done Mb))):=cE (HG5.out.call (X:=Mb) (o:=oQ 1 PD) (i:=EM) (Li:=[]) (fa:=none) (fc:=0) cM (kL wf 1 1 PD 0 (fr:=[]) (fa:=none) (fun k v hk=>by simp at hk) cM cM cM cM cM (fun v hv=>by simp at hv)).1 (kL wf 1 1 PD 0 (fr:=[]) (fa:=none) (fun k v hk=>by simp at hk) cM cM cM cM cM (fun v hv=>by simp at hv)).2);go_wp2_with (first
  |(refine aA rfl 42 (.tmp 3) rfl w2.heap.size 0 rfl [.b 1,.U,.U,.I,.U,.b 1,.string ⟨#[47,114,47,97]⟩,.n,.I,.F,.F,.n,.I,.V,.I,.V,.n,.n,.U,.I,.I,.V,.n] _ HRg.out underlying42 rfl Ah.out ?_)
  |fail)
 refine HCg.out.mono ?_;rintro e ug hd;obtain⟨Zg,A6,rfl,hz,hg,_,_⟩:=GS.done (m:=gM5) HG5.out cM hd;obtain⟨vg,wg,hv,hw,hk,iQ,p9,hin⟩:=nR ug Zg hz.len;have HZg:=cE hz;have VK:=cE (hg.push iQ (ah _) hk cM);have HEg:=cE (cD hv (cD hw (cD p9 (cD hin hz.one))));clear hd hz hg hv hw hk iQ p9 hin HCg;have hc:∀(k:Nat) (x:Bx) (j:Nat) (v:aB),[(⟨w2.heap.size,42,[.b 1,.U,.U,.I,.U,.b 1,.string ⟨#[47,114,47,97]⟩,.n,.I,.F,.F,.n,.I,.V,.I,.V,.n,.n,.U,.I,.I,.V,.n]⟩:Bx),⟨ua.heap.size,49,Za⟩,⟨ub.heap.size,49,Zb⟩,⟨uc.heap.size,49,Zc⟩,⟨ud.heap.size,49,Zd⟩,⟨uf.heap.size,49,Zf⟩,⟨ug.heap.size,49,Zg⟩][k]?=some x→x.cs[j]?=some v→wg.cell? ⟨x.b,j,none⟩=some v:=fun k x j v hx hv=>VK.out.cell (k:=k) hx hv
 have ca:=hc 1 _ 23 _ rfl (HZa.out.err);have ca2:=hc 1 _ 24 _ rfl (HZa.out.path);have cb:=hc 2 _ 23 _ rfl (HZb.out.err);have cc:=hc 3 _ 23 _ rfl (HZc.out.err);have cd:=hc 4 _ 24 _ rfl (HZd.out.1.path);have cd2:=hc 4 _ 37 _ rfl (HZd.out.2.1);have cd3:=hc 4 _ 40 _ rfl (HZd.out.2.2);have cf:=hc 5 _ 23 _ rfl (HZf.out.err);have cg:=hc 6 _ 23 _ rfl (HZg.out.err);dsimp only at ca ca2 cb cc cd cd2 cd3 cf cg;rw[fU.1] at ca;rw[fU.2.1] at ca2;rw[fU.2.2.1] at cb;rw[fU.2.2.2.1] at cc;rw[fU.2.2.2.2.1] at cd;rw[fU.2.2.2.2.2.2.2.1] at cf;rw[fU.2.2.2.2.2.2.2.2.1] at cg
 replace ca2:wg.cell? ⟨ua.heap.size,24,none⟩=some (.string ⟨#[49]⟩):=ca2
 replace cd:wg.cell? ⟨ud.heap.size,24,none⟩=some (.string ⟨#[47,114,47,97]⟩):=cd
 replace cd2:wg.cell? ⟨ud.heap.size,37,none⟩=some (.v 1):=cd2
 replace cd3:wg.cell? ⟨ud.heap.size,40,none⟩=some (.slice rd.sa 2 rd.sc):=cd3
 obtain⟨x0,hx0⟩:∃a,a=wg.alloc (.cells #[.V,.V] 36):=⟨_,rfl⟩;have ab5:cF wg x0:=by rw[hx0];exact cR (aj _ _) _
 have hst:=(VK.out.sts (rd.sa,[0,0]) cN).below ab5;have YS:Hid (ay prog 48 #[.slice rd.sa 2 rd.sc,.slice (some ⟨wg.heap.size,0,none⟩) 2 2] x0 fun e w'=>e=.returned (.T)∧cF x0 w'):=cE (AU x0 rd.sa (some ⟨wg.heap.size,0,none⟩) rd.sc 2 [0,0] [0,0] _ _ cM cM hst (pg hx0));have GF:=cE (cD hx0 ab5);clear hc hx0 ab5 hst;go_wp2_with (first
  |(rw[←HEg.out.1];refine ag rfl 49 (.tmp 9) (.tmp 41) rfl ug.heap.size 0 Zg.toArray rfl rfl HEg.out.2.2.1 HEg.out.2.2.2.1 HEg.out.2.2.2.2 ?_;rw[aa,←HEg.out.2.1])
  |(rw[←GF.out.1])
  |fail)
 refine YS.out.mono ?_;rintro e x1 ⟨rfl,de⟩;have hgx:=VK.out.below (GF.out.2.trans (de.mono GF.out.2.size));have HVV:Hid (ay prog 14 #[.p mb] x1 (jI x1 [1,0])):=cE (by
  have:=vI hgx.fS hgx.ok;rw[hgx.ID] at this;have e:(gM5.done Mb).1.v=[1,0]:=fU.2.2.2.2.2.2.2.2.2.1;rw[e] at this;exact this)
 have ab4:=GF.out.2.trans (de.mono GF.out.2.size);have cf1:=(ab4.cell (p:=⟨uf.heap.size,23,none⟩) (aE _ _ cf)).trans cf;have cg1:=(ab4.cell (p:=⟨ug.heap.size,23,none⟩) (aE _ _ cg)).trans cg;have HGX:=cE hgx;clear hgx de ab4 ca ca2 cb cc cd cd2 cd3 cf cg;go_wp2_with fail
 refine HVV.out.mono ?_;rintro e x2 hv;obtain⟨va,vc,rfl,_,afm,dz⟩:=hv.sl;obtain⟨x3,hx3⟩:∃a,a=x2.alloc (.cells #[.v 1,.V] 36):=⟨_,rfl⟩;have eE:cF x2 x3:=by rw[hx3];exact cR (aj _ _) _
 have HSB:Hid (ay prog 48 #[.slice va 2 vc,.slice (some ⟨x2.heap.size,0,none⟩) 2 2] x3 fun e w'=>e=.returned (.T)∧cF x3 w'):=cE (AU x3 va (some ⟨x2.heap.size,0,none⟩) vc 2 [1,0] [1,0] _ _ cM cM (afm.below eE) (pg hx3));have HX3:=cE (cD hx3 (dz.trans (eE.mono dz.size)));clear hv afm dz hx3 eE;go_wp2_with (first
  |(rw[←HX3.out.1])
  |fail)
 refine HSB.out.mono ?_;rintro e x4 ⟨rfl,hb4⟩;have hgy:=HGX.out.below (HX3.out.2.trans (hb4.mono HX3.out.2.size));have Ay:Hid (ay prog 15 #[.p mb,.V] x4 fun e w'=>∃a c,e=.returned (.slice a 1 c)∧cF x4 w'):=cE (by
  have:=AP hgy.fS hgy.ok cM 0;rw[hgy.ID] at this;refine this.mono ?_;rintro e w' ⟨v,C,rfl,hC,how,_,kA⟩;have h1:=PR hgy.fS (s:=1) cM fU.2.2.2.2.2.2.2.2.2.2.1;obtain⟨a,c,hv⟩:=iA how;rw[h1] at hv;exact⟨a,c,by rw[hv],kA⟩)
 have HGY:=cE hgy;clear hgy hb4;go_wp2_with fail
 refine Ay.out.mono ?_;rintro e x5 ⟨na,nc,rfl,jE⟩;have gM:=me.out.2.trans ((HGY.out.below jE).fS.bl.mono me.out.2.size);have GH:=cE gM;clear gM jE;go_wp2_with fail
 go_ret
 exact⟨by simp,GH.out⟩
end
