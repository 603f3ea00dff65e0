/- Part 45. -/
import Derived.Test.YtdpaejbaoefdjaaGreatDoorQ40
import Derived.Test.YtdpaejbaoefdjaaGreatDoorQ44
open Bool renaming and_eq_true → aa
open Int renaming tmod_eq_emod_of_nonneg → af,tdiv_eq_ediv_of_nonneg → aq
open Nat renaming zero_add → ag
open Go renaming Calls → ah,World → an,cell_of_row → au
open Go.IntKind renaming wrap_i64 → aj
namespace Go.Proofs.YtdpaejbaoefdjaaGreatDoor
open Go.Proofs.Tryz
set_option maxRecDepth 100000
set_option maxHeartbeats 64000000
set_option linter.unusedVariables false
set_option linter.unusedSimpArgs false
def V7(m:cS):Nat→cS
 |0=>m
 |j+1=>((V7 m j).done J0).1
def QA(s:Nat)(m:cS):Nat→cS
 |0=>m
 |j+1=>((QA s m j).done (CE (s+j))).1
def NT(m:cS):Nat→cS
 |0=>m
 |j+1=>((NT m j).done xP).1
theorem EA(m:cS):∀j,V7 m (j+1)=V7 (m.done J0).1 j
 |0=>rfl
 |j+1=>by
  have h:=EA m j;have e1:V7 m (j+1+1)=((V7 m (j+1)).done J0).1:=rfl;have e2:V7 (m.done J0).1 (j+1)=((V7 (m.done J0).1 j).done J0).1:=rfl;rw[e1,e2,h]
theorem Ey(s:Nat)(m:cS):∀j,QA s m (j+1)=QA (s+1) (m.done (CE s)).1 j
 |0=>rfl
 |j+1=>by
  have h:=Ey s m j;have e1:QA s m (j+1+1)=((QA s m (j+1)).done (CE (s+(j+1)))).1:=rfl;have e2:QA (s+1) (m.done (CE s)).1 (j+1)=((QA (s+1) (m.done (CE s)).1 j).done (CE (s+1+j))).1:=rfl;rw[e1,e2,h,show s+(j+1)=s+1+j by omega]
theorem Ez(m:cS):∀j,NT m (j+1)=NT (m.done xP).1 j
 |0=>rfl
 |j+1=>by
  have h:=Ez m j;have e1:NT m (j+1+1)=((NT m (j+1)).done xP).1:=rfl;have e2:NT (m.done xP).1 (j+1)=((NT (m.done xP).1 j).done xP).1:=rfl;rw[e1,e2,h]
theorem ru{b:Nat}:∀(n:Nat) {g:Nat} {m:cS} {N:Nat},m.Ok N→N+n≤1000→Pm b n g m=true→∀j,j≤n→(b≤g+j→KO (g+j) 20 0 (V7 m j)=true)∧(j<n→((V7 m j).done J0).2.e=0)
 |0,g,m,N,ok,hN,h,j,hj=>by
  obtain rfl:j=0:=by omega
  exact⟨fun _=>h,fun h=>by omega⟩
 |n+1,g,m,N,ok,hN,h,j,hj=>by
  unfold Pm at h;rw[aa,aa,Bool.or_eq_true,decide_eq_true_eq,decide_eq_true_eq,←m.rP ok J0] at h;obtain⟨⟨h1,h2⟩,h3⟩:=h;cases j with
  |zero=>exact⟨fun hb=>h1.resolve_left cL,fun _=>h2⟩
  |succ j=>
   have:=ru n (ok.done cL J0) cL h3 j cL;rw[show g+1+j=g+(j+1) by omega,←EA] at this;exact⟨this.1,fun hj=>this.2 cL⟩
theorem AX{g:Nat}:∀(n:Nat) {s:Nat} {m:cS} {N:Nat},m.Ok N→N+n≤1000→KO g n s m=true→∀j,j≤n→rpE g (s+j) (QA s m j)=true∧(j<n→((QA s m j).done (CE (s+j))).2.e=0)
 |0,s,m,N,ok,hN,h,j,hj=>by
  obtain rfl:j=0:=by omega
  exact⟨h,fun h=>by omega⟩
 |n+1,s,m,N,ok,hN,h,j,hj=>by
  unfold KO at h;rw[aa,aa,decide_eq_true_eq,←m.rP ok (CE s)] at h;obtain⟨⟨h1,h2⟩,h3⟩:=h;cases j with
  |zero=>exact⟨h1,fun _=>h2⟩
  |succ j=>
   have:=AX n (ok.done cL (CE s)) cL h3 j cL;rw[show s+1+j=s+(j+1) by omega,←Ey] at this;exact⟨this.1,fun hj=>this.2 cL⟩
theorem Nw{s:Nat}:∀(n:Nat) {m:cS} {N:Nat},m.Ok N→N+n≤1000→rpK s n m=true→∀j,j≤n→((NT m j).tok 0).held=true∧((NT m j).done xP).2.e=0∧(j<n→(NT m j).left 0≠[])∧
  (j=n→(NT m j).left 0=[]∧((NT m j).done xP).2.i.seq=0∧((((NT m j).done xP).1.nodes 0).filter fun x=>C6 pR pR x.1).length=s)
 |0,m,N,ok,hN,h,j,hj=>by
  obtain rfl:j=0:=by omega
  unfold rpK at h;rw[aa,aa,aa,aa,decide_eq_true_eq,decide_eq_true_eq,decide_eq_true_eq,decide_eq_true_eq,decide_eq_true_eq,←m.rP ok xP,←m.wo] at h;obtain⟨⟨⟨⟨h1,h2⟩,h3⟩,h4⟩,h5⟩:=h;exact⟨h2,h3,fun h=>by omega,fun _=>⟨h1,h4,h5⟩⟩
 |n+1,m,N,ok,hN,h,j,hj=>by
  unfold rpK at h;rw[aa,aa,aa,decide_eq_true_eq,decide_eq_true_eq,decide_eq_true_eq,←m.rP ok xP,←m.wo] at h;obtain⟨⟨⟨h1,h2⟩,h3⟩,h4⟩:=h;cases j with
  |zero=>exact⟨h2,h3,fun _=>h1,fun h=>by omega⟩
  |succ j=>
   have:=Nw n (ok.done cL xP) cL h4 j cL;rw[←Ez] at this;exact⟨this.1,this.2.1,fun hj=>this.2.2.1 cL,fun hj=>this.2.2.2 cL⟩
theorem jZ(m:cS)(X:iS):(m.done X).1.dH=m.dH:=by
 unfold cS.done;split
 ·exact(cS.AH m _).dH
 rfl
theorem SU:rp0.Ok 0:=cS.Ok.new cM cM cM (fun r hr=>by
 simp at hr;subst hr
 decide+kernel)
theorem aa1:rp1.Ok 1:=SU.done cM Q4
theorem aa0:rp2.Ok 2:=aa1.done cM Q4
theorem AY:rp3.Ok 3:=aa0.done cM rpI
theorem SS:rp3.dH=[pR]:=by
 unfold rp3 rp2 rp1;rw[jZ,jZ,jZ];rfl
def xQ(g:Nat):cS:=V7 rp3 g
def nB(g s:Nat):cS:=QA 0 (xQ g) s
def aeq(g s:Nat):cS:=((nB g s).done SR).1
def qZ(g s k:Nat):cS:=NT (aeq g s) k
theorem Al:∀{g:Nat},g≤20→(xQ g).Ok (3+g)∧(xQ g).dH=[pR]
 |0,_=>⟨AY,SS⟩
 |g+1,h=>by
  have ih:=Al (g:=g) cL;exact⟨ih.1.done cL J0,by
   have:=jZ (xQ g) J0;rw[ih.2] at this;exact this⟩
theorem Ak{g:Nat}(hg:g≤20):∀{s:Nat},s≤20→(nB g s).Ok (3+g+s)∧(nB g s).dH=[pR]
 |0,_=>Al hg
 |s+1,h=>by
  have ih:=Ak hg (s:=s) cL;exact⟨ih.1.done cL (CE (0+s)),by
   have:=jZ (nB g s) (CE (0+s));rw[ih.2] at this;exact this⟩
theorem Fx{g s:Nat}(hg:g≤20)(hs:s≤20):∀{k:Nat},k≤20→(qZ g s k).Ok (3+g+s+1+k)∧(qZ g s k).dH=[pR]
 |0,_=>by
  have ih:=Ak hg hs;exact⟨ih.1.done cL SR,by
   have:=jZ (nB g s) SR;rw[ih.2] at this;exact this⟩
 |k+1,h=>by
  have ih:=Fx hg hs (k:=k) cL;exact⟨ih.1.done cL xP,by
   have:=jZ (qZ g s k) xP;rw[ih.2] at this;exact this⟩
theorem Pk{g:Nat}(hg:g<20):((xQ g).done J0).2.e=0:=(ru 20 AY cM aeo g cL).2 hg
theorem SQ{g:Nat}(hg:g≤20):KO g 20 0 (xQ g)=true:=by
 rcases Nat.lt_or_ge g 7 with h|h
 ·have:=(ru 6 AY cM ajv g cL).1 cL
  rwa [ag] at this
 rcases Nat.lt_or_ge g 14 with h2|h2
 ·have:=(ru 13 AY cM aju g cL).1 cL
  rwa [ag] at this
 have:=(ru 20 AY cM aeo g cL).1 cL
 rwa [ag] at this
theorem Nv{g s:Nat}(hg:g≤20)(hs:s<20):((nB g s).done (CE s)).2.e=0:=by
 have:=(AX 20 (Al hg).1 cL (SQ hg) s cL).2 hs
 rwa [ag] at this
theorem SP{g s:Nat}(hg:g≤20)(hs:s≤20):(nB g s).left 0=[]∧((nB g s).done SR).2.e=0∧rpK s ((g+5) / 6) (aeq g s)=true:=by
 have h:=(AX 20 (Al hg).1 cL (SQ hg) s hs).1;rw[ag] at h;have ok:=(Ak hg hs).1;unfold rpE at h;have e:QA 0 (xQ g) s=nB g s:=rfl;rw[e,aa,aa,decide_eq_true_eq,decide_eq_true_eq,←(nB g s).rP ok SR,←(nB g s).wo] at h;exact⟨h.1.1,h.1.2,h.2⟩
theorem SO{g s k:Nat}(hg:g≤20)(hs:s≤20)(hk:k≤(g+5) / 6):((qZ g s k).tok 0).held=true∧((qZ g s k).done xP).2.e=0∧(k<(g+5) / 6→(qZ g s k).left 0≠[])∧
  (k=(g+5) / 6→(qZ g s k).left 0=[]∧((qZ g s k).done xP).2.i.seq=0∧((((qZ g s k).done xP).1.nodes 0).filter fun x=>C6 pR pR x.1).length=s):=
 Nw ((g+5) / 6) ((Fx hg hs (k:=0) cL).1) cL (SP hg hs).2.2 k hk
theorem Qr(root:cP)(M:List (cP×Nd))(p:cP):(jB root M p).length=(M.filter fun x=>C6 root p x.1).length:=by
 unfold jB gU;rw[(gH _).length_eq,List.length_map,((gH _).filter _).length_eq,List.filter_map,List.length_map]
 congr 2
 funext x
 exact NO root p x.1
section
open Go.RowKit Go.Shelf Go.MapKept Go.ChangeMaps
def KZ(p:cP)(e:Bool):cV:=⟨1,p,none,0,0,0,true,e,none,0,0⟩
theorem KJ(w:an)(n:Nat)(p:cP)(e:Bool)(hn:n<1000)(h3:p.length≤64):nV w (KM n p e) (KZ p e) EM [] none∧jz w (KZ p e) (KM n p e).od:=by
 have hnb:∀lo hi a,eB w lo hi a []:=fun lo hi a j c hj=>by simp at hj
 obtain⟨h,_⟩:=kL w 1 1 p 0 (fr:=[]) (fa:=none) (fun k v hk=>by simp at hk) cM cM h3 cM cM (fun v hv=>by simp at hv);have q:=h.num;refine⟨⟨⟨1,rpO p e,[],⟨rfl,rfl,rfl,rfl,rfl,rfl,hnb _ _ _,fun _=>⟨rfl,rfl⟩⟩,⟨by show(0:Int)≤1∧(1:Int)<256;decide,by show -9223372036854775808≤(0:Int);decide,by show(0:Int)<9223372036854775808;decide⟩,rfl,rfl,fun k D hD=>by simp at hD⟩,h.dY,h.fr,⟨q.kind,q.oh,q.req,q.os,by show n<_;omega,q.site,q.dK,q.ep,q.ew,q.I6⟩,?_⟩,[],fun _=>true,fun k c hk=>by simp at hk,rfl,(by show(0:Nat)≤1000000000;decide),?_,fun W hW k x hx=>by simp at hx⟩
 ·show(opHead (rpO p e)++(dI 8 0++[])).length+jY ko+8*0≤50000000
  rw[List.length_append,jQ];have e1:(rpO p e).path.length=p.length:=rfl;have e2:(rpO p e).data.length=0:=rfl;have e3:(dI 8 0++[]).length=8:=by simp[dw]
  have e4:jY ko=0:=rfl;omega
 show true=oA (KZ p e) 6 (fun _=>true);unfold oA KZ;simp[h3]
theorem aaY(w:an):nV w SR (oQ 0 []) EM [] none∧jz w (oQ 0 []) SR.od:=by
 obtain⟨h,h2⟩:=kL w 3 0 [] 0 (fr:=[]) (fa:=none) (fun k v hk=>by simp at hk) cM cM cM cM cM (fun v hv=>by simp at hv);have hn:=h.num;exact⟨⟨h.op,h.dY,h.fr,⟨hn.kind,hn.oh,hn.req,hn.os,(by show(1:Nat)<4294967296;decide),hn.site,hn.dK,hn.ep,hn.ew,hn.I6⟩,h.size⟩,h2⟩
theorem O5{w w':an}{x:Nat}(h:w'=w.alloc (.cells #[.v (x:Int)] 36)):dr w' (fun _=>True) (some ⟨w.heap.size,0,none⟩) [x]:=fun k v hk=>by
 have hl:w.heap.size<w'.heap.size:=by rw[h];simp
 refine⟨w.heap.size,0,rfl,trivial,hl,?_⟩;rw[h,au _ _ _ _ 36 (0,0) (heap_alloc_new w _)]
 match k,hk with
 |0,hk=>simp at hk;subst hk;rfl
 |k+1,hk=>simp at hk
def xH(w1 wr:an)(mb:Nat)(m:cS)(N:Nat):Prop:=∃A,GS w1 wr mb A m N [] []
theorem xH.below{w1 wr w':an}{mb N:Nat}{m:cS}(h:xH w1 wr mb m N)(hb:cF wr w'):xH w1 w' mb m N:=by
 obtain⟨A,h⟩:=h;exact⟨A,h.below hb⟩
theorem xH.bl{w1 wr:an}{mb N:Nat}{m:cS}(h:xH w1 wr mb m N):cF w1 wr:=by
 obtain⟨A,h⟩:=h;exact h.fS.bl
def tX(w1:an)(mb:Nat)(m:cS)(N:Nat)(X:iS)(e:Ending)(w':an):Prop:=∃Z:List Value,e=.returned (.agg Z.toArray)∧Z.length=43∧Z[23]?=some (.i (m.done X).2.e)∧Z[37]?=some (.v (m.done X).2.i.seq)∧(Z.toArray:Array Value).all (·.oneCell')=true∧xH w1 w' mb (m.done X).1 (N+1)
theorem xH.call{w1 wr:an}{mb N:Nat}{m:cS}(h:xH w1 wr mb m N)(hN:N≤80000){X:iS}{o:cV}{i:dS}{Li:List cZ}{fa:Option Addr}{fc:Nat}(hX:nV wr X o i Li fa∧jz wr o X.od):
  ah prog 13 #[.p mb,.agg (X.cells o i fa fc).toArray] wr (tX w1 mb m N X):=by
 obtain⟨A,h⟩:=h;refine(h.call hN (fc:=fc) hX.1 hX.2).mono ?_;intro e w' hd;obtain⟨Z,A',rfl,hz,hg,_,_⟩:=h.done cL hd;obtain⟨_,_,_,h37,_,_⟩:=hz.dY;exact⟨Z,rfl,hz.len,hz.err,h37,hz.one,A',hg⟩
theorem xH.rest{w1 wr:an}{mb N:Nat}{m:cS}(h:xH w1 wr mb m N)(hr:m.dH=[pR]):ah prog 18 #[.p mb,.I] wr fun e w'=>e=.returned (.bool ((m.tok 0).held&&decide (m.left 0≠[])))∧cF wr w':=by
 obtain⟨A,h⟩:=h;have:=KA h.fS h.ok 0 (by rw[hr];decide)
 rwa [h.ID] at this
theorem xH.kids{w1 wr:an}{mb N:Nat}{m:cS}(h:xH w1 wr mb m N)(hr:m.dH=[pR]):ah prog 19 #[.p mb,.I] wr fun e w'=>∃b,e=.returned (.p b)∧cF wr w'∧
  ah prog 20 #[.p b,.s pR] w' fun e w''=>∃a c,e=.returned (.slice a (((m.nodes 0).filter fun x=>C6 pR pR x.1).length:Nat) c)∧cF w' w'':=by
 obtain⟨A,h⟩:=h;have hl:m.trees.length=1:=by rw[h.ok.tl,hr];rfl
 have:=qj h.fS 0 (by rw[hl];decide) (by rw[hl];decide);rw[h.ID] at this;refine this.mono ?_;rintro e w' ⟨b,rfl,ht,_,hb⟩;refine⟨b,rfl,hb,(ht.kids pR).mono ?_⟩;rintro e w'' ⟨a,c,rfl,_,dz⟩;have e1:m.root 0=pR:=by unfold cS.root;rw[hr];rfl
 rw[Qr,e1];exact⟨a,c,rfl,dz⟩
theorem Po{w:an}(mx:dG w)(pow:gB w)(n q:Nat)(hn:n<256)(hq:q<256):
  ah prog 4 #[.b n,.b q] w fun e w'=>e=.returned (.T)∧cF w w':=by
 have HA:=cE (cD mx pow);obtain⟨w1,hw1⟩:∃a,a=w.alloc (.cells #[.string ⟨#[47,114]⟩] 9):=⟨_,rfl⟩;have de:cF w w1:=by rw[hw1];exact cR (Below.refl _ w) _
 have hS:gA w1 w1.heap.size (some ⟨w.heap.size,0,none⟩) [pR]:=fun k p hk=>by
  have h0:k=0:=by have:=(List.getElem?_eq_some_iff.1 hk).1;simp at this;omega
  subst h0;simp at hk;subst hk;exact⟨w.heap.size,0,rfl,by rw[hw1];simp,by rw[hw1];exact au _ _ 0 _ 9 (0,0) (heap_alloc_new w _)⟩
 have Wt:Hid (ah prog 12 #[.I,.i 1,.slice (some ⟨w.heap.size,0,none⟩) 1 1] w1 fun e w'=>cF w1 w'∧∃A:MA,e=.returned (.tuple #[.p A.mb,.I])∧cU w1 w' A rp0∧∀b,A.Z b→w1.heap.size≤b):=cE (sB (c:=1) (mx.kept de) (iw pow de) hS 0 1 ⟨by decide,fun r hr=>by simp at hr;subst hr;decide⟩ (by decide+kernel));have me:=cE (cD hw1 de);clear hS hw1 de mx pow;obtain⟨g,hg⟩:=cG (n % 21);obtain⟨s,hs⟩:=cG (q % 21);have QK:g≤20:=by omega
 have XX:s≤20:=by omega
 have tn:∀_:True,IntKind.i64.wrap (n:Int)=(n:Int):=fun _=>by rw[aj];omega
 have tq:∀_:True,IntKind.i64.wrap (q:Int)=(q:Int):=fun _=>by rw[aj];omega
 have tg:∀_:True,(n:Int).tmod 21=(g:Int):=fun _=>by rw[hg,af cL];omega
 have ts:∀_:True,(q:Int).tmod 21=(s:Int):=fun _=>by rw[hs,af cL];omega
 clear hg hs;go_enter func4,ntmps4
 go_wp2_with (first|rw[←me.out.1]|fail)
 refine Wt.out.mono ?_;rintro e w2 ⟨dz,A0,rfl,hA,_⟩;obtain⟨mb,hmb⟩:∃n,n=A0.mb:=⟨_,rfl⟩;rw[←hmb];have HG0:Hid (xH w1 w2 mb rp0 0):=cE ⟨A0,hmb.symm,hA,SU,(fun x hx=>by cases hx),(fun x hx=>by cases hx)⟩;have HCa:Hid (ah prog 13 #[.p mb,.agg #[.b 2,.U,.U,.I,.U,.B,.z,.n,.I,.F,.F,.n,.I,.V,.I,.V,.n,.n,.U,.I,.I,.V,.n]] w2 (tX w1 mb rp0 0 Q4)):=cE (HG0.out.call (X:=Q4) (o:=oQ 0 []) (i:=EM) (Li:=[]) (fa:=none) (fc:=0) cM (kL w2 2 0 [] 0 (fr:=[]) (fa:=none) (fun k v hk=>by simp at hk) cM cM cM cM cM (fun v hv=>by simp at hv)));clear hA dz hmb;go_wp2_with fail
 refine HCa.out.mono ?_;rintro e w4 ⟨Za,rfl,_,_,_,_,uD⟩;have Ww:Hid (xH w1 w4 mb rp1 1):=cE uD;have HCb:Hid (ah prog 13 #[.p mb,.agg #[.b 2,.U,.U,.I,.U,.B,.z,.n,.I,.F,.F,.n,.I,.V,.I,.V,.n,.n,.U,.I,.I,.V,.n]] w4 (tX w1 mb rp1 1 Q4)):=cE (Ww.out.call (X:=Q4) (o:=oQ 0 []) (i:=EM) (Li:=[]) (fa:=none) (fc:=0) cM (kL w4 2 0 [] 0 (fr:=[]) (fa:=none) (fun k v hk=>by simp at hk) cM cM cM cM cM (fun v hv=>by simp at hv)));clear uD;go_wp2_with fail
 refine HCb.out.mono ?_;rintro e w5 ⟨Zb,rfl,_,_,_,_,hg2⟩;obtain⟨w6,l6⟩:∃a,a=w5.alloc (.cells #[.V] 36):=⟨_,rfl⟩;have qb:cF w5 w6:=by rw[l6];exact cR (Below.refl _ _) _
 have Y1:Hid (xH w1 w6 mb rp2 2):=cE (hg2.below qb);have HCc:Hid (ah prog 13 #[.p mb,.agg #[.b 5,.U,.U,.I,.U,.B,.z,.n,.I,.F,.F,.n,.I,.V,.I,.V,.n,.n,.U,.I,.I,.v 1,.slice (some ⟨w5.heap.size,0,none⟩) 1 1]] w6 (tX w1 mb rp2 2 rpI)):=cE (Y1.out.call (X:=rpI) (o:=oQ 0 []) (i:=EM) (Li:=[]) (fa:=(some ⟨w5.heap.size,0,none⟩)) (fc:=1) cM (kL w6 5 0 [] 1 (fr:=[0]) (fa:=(some ⟨w5.heap.size,0,none⟩)) (O5 l6) cM cM cM cM cM (fun v hv=>by simp at hv;omega)));have CO:=cE l6;clear hg2 qb l6;go_wp2_with (first|rw[←CO.out]|fail)
 refine HCc.out.mono ?_;rintro e w7 ⟨Zc,rfl,_,_,_,_,Yd⟩;have HG3:Hid (xH w1 w7 mb (xQ 0) 3):=cE Yd;clear Yd;go_wp2_with fail
 go_loopw [9] (fun iv wr=>∃j:Nat,j≤g∧iv=.i j∧Hid (xH w1 wr mb (xQ j) (3+j))) (fun iv _=>g - (intOf iv).toNat)
 case atStart=>exact⟨0,by omega,rfl,HG3⟩
 obtain⟨j,hj,rfl,HS⟩:=hrel;by_cases hlt:j<g
 ·have Y8:decide ((j:Int)<(g:Int))=true:=by simp;omega
  have HC:Hid (ah prog 13 #[.p mb,.agg #[.b 1,.U,.U,.I,.u 1,.b 1,.string ⟨#[47,114,47,103]⟩,.n,.I,.T,.T,.n,.I,.V,.I,.V,.n,.n,.U,.I,.I,.V,.n]] wr (tX w1 mb (xQ j) (3+j) J0)):=cE (HS.out.call (X:=J0) (o:=KZ [47,114,47,103] true) (i:=EM) (Li:=[]) (fa:=none) (fc:=0) cL (KJ wr 1 _ true cM cM));clear HS;go_wp2_with fail
  refine HC.out.mono ?_;rintro e w8 ⟨Z,rfl,hl,h23,_,_,wJ⟩;rw[Pk cL] at h23;obtain⟨R,tQ,Gb⟩:=kg hl h23;have f1:=tQ w8;have f2:=Gb w8;have HN:Hid (xH w1 w8 mb (xQ (j+1)) (3+(j+1))):=cE wJ;clear hl h23 wJ tQ Gb HC;go_wp2_with fail
  go_roundw
  case rel=>exact⟨j+1,by omega,by go_num,HN⟩
  case measure=>simp[intOf];omega
 obtain rfl:g=j:=by omega
 obtain⟨wA,hwA⟩:=cG wr;subst hwA;have Y8:decide ((g:Int)<(g:Int))=false:=by simp
 have YV:Hid (xH w1 wA mb (nB g 0) (3+g+0)):=cE HS.out;clear HS hj hlt;go_wp2_with fail
 go_loopw [10] (fun iv wr=>∃j:Nat,j≤s∧iv=.i j∧Hid (xH w1 wr mb (nB g j) (3+g+j))) (fun iv _=>s - (intOf iv).toNat)
 case atStart=>exact⟨0,by omega,rfl,YV⟩
 obtain⟨j,hj,rfl,HS⟩:=hrel;by_cases hlt:j<s
 ·have aef:decide ((j:Int)<(s:Int))=true:=by simp;omega
  rcases(show j % 2=0∨j % 2=1 by omega) with hp|hp
  case' inl=>
   have tm:∀_:True,(j:Int).tmod 2=0:=fun _=>by rw[af cL];omega
   have hX:CE j=KM 1 [47,114,47,115] false:=by unfold CE;rw[hp];rfl
   have hst:=Nv (g:=g) (s:=j) QK cL;have sL:((nB g j).done (CE j)).1=nB g (j+1):=by
    show _=((QA 0 (xQ g) j).done (CE (0+j))).1;rw[ag];rfl
   rw[hX] at hst sL;have HC:Hid (ah prog 13 #[.p mb,.agg #[.b 1,.U,.U,.I,.u 1,.b 1,.string ⟨#[47,114,47,115]⟩,.n,.I,.T,.F,.n,.I,.V,.I,.V,.n,.n,.U,.I,.I,.V,.n]] wr (tX w1 mb (nB g j) (3+g+j) (KM 1 [47,114,47,115] false))):=cE (HS.out.call (X:=KM 1 [47,114,47,115] false) (o:=KZ [47,114,47,115] false) (i:=EM) (Li:=[]) (fa:=none) (fc:=0) cL (KJ wr 1 _ false cM cM))
  case' inr=>
   have tm:∀_:True,(j:Int).tmod 2=1:=fun _=>by rw[af cL];omega
   have hX:CE j=KM 2 [47,114,47,115] true:=by unfold CE;rw[hp];rfl
   have hst:=Nv (g:=g) (s:=j) QK cL;have sL:((nB g j).done (CE j)).1=nB g (j+1):=by
    show _=((QA 0 (xQ g) j).done (CE (0+j))).1;rw[ag];rfl
   rw[hX] at hst sL;have HC:Hid (ah prog 13 #[.p mb,.agg #[.b 1,.U,.U,.I,.u 2,.b 1,.string ⟨#[47,114,47,115]⟩,.n,.I,.T,.T,.n,.I,.V,.I,.V,.n,.n,.U,.I,.I,.V,.n]] wr (tX w1 mb (nB g j) (3+g+j) (KM 2 [47,114,47,115] true))):=cE (HS.out.call (X:=KM 2 [47,114,47,115] true) (o:=KZ [47,114,47,115] true) (i:=EM) (Li:=[]) (fa:=none) (fc:=0) cL (KJ wr 2 _ true cM cM))
  all_goals
   clear HS hX;have HSN:=cE (cD hst sL);clear hst sL;go_wp2_with fail
   refine HC.out.mono ?_;rintro e w8 ⟨Z,rfl,hl,h23,_,_,wJ⟩;rw[HSN.out.1] at h23;rw[HSN.out.2] at wJ;obtain⟨R,tQ,Gb⟩:=kg hl h23;have f1:=tQ w8;have f2:=Gb w8;have HN:Hid (xH w1 w8 mb (nB g (j+1)) (3+g+(j+1))):=cE wJ;clear hl h23 wJ tQ Gb;go_wp2_with fail
   go_roundw
   case rel=>exact⟨j+1,by omega,by go_num,HN⟩
   case measure=>simp[intOf];omega
 obtain rfl:s=j:=by omega
 obtain⟨wB,hwB⟩:=cG wr;subst hwB;have aef:decide ((s:Int)<(s:Int))=false:=by simp
 obtain⟨q1,q2,_⟩:=SP QK XX;have HR0:Hid (ah prog 18 #[.p mb,.I] wB fun e w'=>e=.returned (.F)∧cF wB w'):=cE (by
  have:=HS.out.rest (Ak QK XX).2;rw[q1] at this;simpa using this)
 have HB:=cE (cD HS.out (cD q1 q2));clear HS hj hlt q1 q2;go_wp2_with fail
 refine HR0.out.mono ?_;rintro e w9 ⟨rfl,BS⟩;have HS9:Hid (xH w1 w9 mb (nB g s) (3+g+s)):=cE (HB.out.1.below BS);have HCC:Hid (ah prog 13 #[.p mb,.agg #[.b 3,.U,.U,.I,.u 1,.B,.z,.n,.I,.F,.F,.n,.I,.V,.I,.V,.n,.n,.U,.I,.I,.V,.n]] w9 (tX w1 mb (nB g s) (3+g+s) SR)):=cE (HS9.out.call (X:=SR) (o:=oQ 0 []) (i:=EM) (Li:=[]) (fa:=none) (fc:=0) cL (aaY w9));clear BS;go_wp2_with fail
 refine HCC.out.mono ?_;rintro e kq ⟨Z,rfl,hl,h23,_,_,wJ⟩;rw[HB.out.2.2] at h23;obtain⟨R,tQ,Gb⟩:=kg hl h23;have f1:=tQ kq;have f2:=Gb kq;have al1:Hid (xH w1 kq mb (qZ g s 0) (3+g+s+1+0)):=cE wJ;clear hl h23 wJ tQ Gb;obtain⟨K,hK⟩:=cG ((g+5) / 6);have hK4:K≤4:=by omega
 have tK:∀_:True,((g:Int)+6 - 1).tdiv 6=(K:Int):=fun _=>by rw[hK,aq cL];omega
 have tK2:∀_:True,((g:Int)+5).tdiv 6=(K:Int):=fun _=>by rw[hK,aq cL];omega
 have tW:∀_:True,IntKind.i64.wrap ((g:Int)+6)=(g:Int)+6:=fun _=>by rw[aj];omega
 have HK:=cE hK;clear hK;go_wp2_with fail
 go_loopw [11] (fun iv wr=>∃k:Nat,k≤K∧iv=.i k∧Hid (xH w1 wr mb (qZ g s k) (3+g+s+1+k))) (fun iv _=>K - (intOf iv).toNat)
 case atStart=>exact⟨0,by omega,rfl,al1⟩
 obtain⟨k,hk,rfl,HS⟩:=hrel;have hkK:k≤(g+5) / 6:=by rw[←HK.out];exact hk
 obtain⟨p1,p2,p3,p4⟩:=SO (g:=g) (s:=s) (k:=k) QK XX hkK;rw[←HK.out] at p3 p4;have eW:=(Fx QK XX (k:=k) cL).2;have Sc:=HS.out.rest eW;rw[p1,Bool.true_and] at Sc;by_cases hlt:k<K
 ·have Wq:Hid (ah prog 18 #[.p mb,.I] wr fun e w'=>e=.returned (.T)∧cF wr w'):=cE (by
   rw[decide_eq_true (p3 hlt)] at Sc;exact Sc)
  have rX:=cE (cD HS.out p2);have t10:decide ((k:Int)<10)=true:=by simp;omega
  clear p1 p2 p3 p4 eW Sc HS hkK;go_wp2_with fail
  refine Wq.out.mono ?_;rintro e p8 ⟨rfl,Gg⟩;have acU:Hid (xH w1 p8 mb (qZ g s k) (3+g+s+1+k)):=cE (rX.out.1.below Gg);have HCR:Hid (ah prog 13 #[.p mb,.agg #[.b 7,.U,.U,.I,.U,.B,.z,.n,.I,.F,.F,.n,.I,.V,.I,.V,.n,.n,.U,.I,.I,.V,.n]] p8 (tX w1 mb (qZ g s k) (3+g+s+1+k) xP)):=cE (acU.out.call (X:=xP) (o:=oQ 0 []) (i:=EM) (Li:=[]) (fa:=none) (fc:=0) cL (kL p8 7 0 [] 0 (fr:=[]) (fa:=none) (fun k v hk=>by simp at hk) cM cM cM cM cM (fun v hv=>by simp at hv)));clear Gg;go_wp2_with fail
  refine HCR.out.mono ?_;rintro e oG ⟨Z2,rfl,hl,h23,_,_,wJ⟩;rw[rX.out.2] at h23;obtain⟨R2,tQ,Gb⟩:=kg hl h23;have f1:=tQ oG;have f2:=Gb oG;have HN:Hid (xH w1 oG mb (qZ g s (k+1)) (3+g+s+1+(k+1))):=cE wJ;clear hl h23 wJ tQ Gb;go_wp2_with fail
  go_roundw
  case rel=>exact⟨k+1,by omega,by go_num,HN⟩
  case measure=>simp[intOf];omega
 obtain rfl:k=K:=by omega
 obtain⟨p5,p6,p7⟩:=p4 rfl;have Wq:Hid (ah prog 18 #[.p mb,.I] wr fun e w'=>e=.returned (.F)∧cF wr w'):=cE (by
  rw[p5] at Sc;simpa using Sc)
 have hrl:((qZ g s k).done xP).1.dH=[pR]:=by rw[jZ];exact eW
 have rX:=cE (cD HS.out (cD p2 (cD p6 (cD p7 hrl))));clear p1 p2 p3 p4 p5 p6 p7 eW Sc HS hkK hrl;go_wp2_with fail
 refine Wq.out.mono ?_;rintro e p8 ⟨rfl,Gg⟩;have acU:Hid (xH w1 p8 mb (qZ g s k) (3+g+s+1+k)):=cE (rX.out.1.below Gg);have HCR:Hid (ah prog 13 #[.p mb,.agg #[.b 7,.U,.U,.I,.U,.B,.z,.n,.I,.F,.F,.n,.I,.V,.I,.V,.n,.n,.U,.I,.I,.V,.n]] p8 (tX w1 mb (qZ g s k) (3+g+s+1+k) xP)):=cE (acU.out.call (X:=xP) (o:=oQ 0 []) (i:=EM) (Li:=[]) (fa:=none) (fc:=0) cL (kL p8 7 0 [] 0 (fr:=[]) (fa:=none) (fun k v hk=>by simp at hk) cM cM cM cM cM (fun v hv=>by simp at hv)));clear Gg;go_wp2_with fail
 refine HCR.out.mono ?_;rintro e oG ⟨Z2,rfl,hl,h23,h37,hone,wJ⟩;rw[rX.out.2.1] at h23;rw[rX.out.2.2.1] at h37;obtain⟨wa,wb,rL,ym,hkb,iQ,p9,hin⟩:=nR oG Z2 hl;have R8:wb.cell? ⟨oG.heap.size,23,none⟩=some (.I):=by
  rw[au _ _ 23 _ 49 (0,0) hkb];simpa using h23
 have c37:wb.cell? ⟨oG.heap.size,37,none⟩=some (.V):=by
  rw[au _ _ 37 _ 49 (0,0) hkb];simpa using h37
 have HTR:Hid (ah prog 19 #[.p mb,.I] wb fun e w'=>∃b,e=.returned (.p b)∧cF wb w'∧ah prog 20 #[.p b,.string ⟨#[47,114]⟩] w' fun e w''=>∃a c,e=.returned (.slice a s c)∧cF w' w''):=cE (by
  have:=(wJ.below iQ).kids rX.out.2.2.2.2;rw[rX.out.2.2.2.1] at this;exact this)
 have iY:=cE (cD rL (cD ym (cD p9 (cD hin hone))));have HL:=cE (wJ.below iQ);clear hl h23 h37 hone wJ rL ym hkb iQ p9 hin;go_wp2_with (first
  |(rw[←iY.out.1];refine wpList_store_mid rfl 49 (.tmp 12) (.tmp 100) rfl oG.heap.size 0 Z2.toArray rfl rfl iY.out.2.2.1 iY.out.2.2.2.1 iY.out.2.2.2.2 ?_;rw[List.toList_toArray,←iY.out.2.1])
  |fail)
 refine HTR.out.mono ?_;rintro e w13 ⟨b,rfl,iI,hkk⟩;have OM:=cE hkk;have ahQ:=cE iI;clear hkk iI;go_wp2_with fail
 refine OM.out.mono ?_;rintro e w14 ⟨ka,kc,rfl,Gf⟩;have h14:=HL.out.below (ahQ.out.trans (Gf.mono ahQ.out.size));have kA:cF w w14:=me.out.2.trans (h14.bl.mono me.out.2.size);have JV:=cE (BW (HA.out.1.kept kA) (iw HA.out.2 kA));have RM:=cE kA;clear h14 Gf kA;go_wp2_with fail
 refine JV.out.mono ?_;rintro e w15 ⟨rfl,oO⟩;have amC:=cE (RM.out.trans (oO.mono RM.out.size));clear oO;go_wp2_with fail
 go_ret
 exact⟨by simp,amC.out⟩
end
