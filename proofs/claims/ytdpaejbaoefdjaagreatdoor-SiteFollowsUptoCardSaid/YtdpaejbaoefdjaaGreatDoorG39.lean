/- Part 39. -/
import Derived.Test.YtdpaejbaoefdjaaGreatDoorG38
open Go.World renaming rangeAt_setCells_same → aa,frozen? → aJ
open List renaming length_append → af,toList_toArray → au,size_toArray → aB,getElem?_eq_getElem → aE,getElem?_zip_eq_some → aK,getElem?_eq_some_iff → aL,mem_of_getElem? → aN,getElem?_map → aO,flatMap_cons → aP
open Go renaming wpList_store_mid → ag,heap_alloc_new → aj,wpList_load_mid → an,lt_of_block → aq,bodyPost_ret → aD,Value → aF,cell_of_row → aH,Calls → aM
open Go.RowKit.Below renaming refl → ah
open Nat renaming le_trans → ay,lt_of_lt_of_le → aC,le_refl → aG,zero_add → aI
open Go.Value renaming oneCell' → aA
namespace Go.Proofs.YtdpaejbaoefdjaaGreatDoor
open Go.Proofs.Tryz
set_option maxRecDepth 100000
set_option maxHeartbeats 64000000
set_option linter.unusedVariables false
set_option linter.unusedSimpArgs false
section
open Go.RowKit Go.Shelf Go.MapKept Go.ChangeMaps
section
variable{w0 w:World}{A:MA}{m:cV}{N:Nat}
theorem sF(h:cZ w0 w A m)(ok:m.Ok N)(hN:N≤80000){ao:Option Addr}{c:Nat}{lo:Nat→Prop}{D:cO}(hD:dW w lo ao c D)(hl:D.length≤1000000000):
  aM prog 24 #[.p A.mb,.slice ao D.length c] w (gp w0 w A (if mF D then m.apply (eM D) else (m,oI 2))):=by
 obtain⟨Y,hY⟩:=cF ((if mF D then m.apply (eM D) else (m,oI 2)));rw[←hY];have HY:=cD hY;clear hY;obtain⟨w1,hw1⟩:=cF (w.alloc (.cells #[.B,.U,.U,.I,.U,.B,.z,.n,.I,.F,.F,.n,.I,.V,.I,.V,.n,.n,.U,.I,.I,.V,.n,.I,.z,.n,.U,.U,.U,.I,.U,.V,.V,.V,.n,.n,.I,.V,.I,.V,.n,.n,.U] 49));have dB:cE w w1:=by rw[hw1];exact cT (ah _ w) _
 have hs1:w1.heap.size=w.heap.size+1:=by rw[hw1];simp
 have k1:w1.heap[w.heap.size]?=some (.cells #[.B,.U,.U,.I,.U,.B,.z,.n,.I,.F,.F,.n,.I,.V,.I,.V,.n,.n,.U,.I,.I,.V,.n,.I,.z,.n,.U,.U,.U,.I,.U,.V,.V,.V,.n,.n,.I,.V,.I,.V,.n,.n,.U] 49 (0,0)):=by rw[hw1];exact aj w _
 have HGE:=cD (Fl w1 ao c lo D (hD.below dB) hl);obtain⟨dn,hdn⟩:∃n,n=D.length:=⟨_,rfl⟩;rw[←hdn] at HGE⊢;have nS:=cD (cC hw1 (cC dB (cC hs1 k1)));have HH:=cD (cC h (cC trivial (cC ok hN)));have afp:Hid (cG 42 23):=cD cJ;have wM:Hid (cG 49 43):=cD cJ;clear hw1 dB hs1 k1 h ok hN hD hl hdn;go_enter func24,ntmps24
 go_wp2_with (first
  |(rw[←nS.out.1])
  |fail)
 refine HGE.out.mono ?_;rintro e w2 ⟨cs,x,rfl,dI,yF⟩;have hcl:cs.length=23:=by
  rcases yF with ⟨_,_,o,i,fa,fc,L,E,rfl,_⟩|⟨_,_,rfl⟩
  ·simp[fV.cells,iA]
  simp[tM,fV.cells,iA]
 have hone:(cs.toArray:Array aF).all (·.oneCell')=true:=by
  rcases yF with ⟨_,_,o,i,fa,fc,L,E,rfl,_⟩|⟨_,_,rfl⟩
  ·simp[fV.cells,iA,aA]
  simp[tM,fV.cells,iA,aA]
 obtain⟨wz,Kn,hbz,hsz,Ss⟩:=dX w2 [.B,.U,.U,.I,.U,.B,.z,.n,.I,.F,.F,.n,.I,.V,.I,.V,.n,.n,.U,.I,.I,.V,.n] 42;have hbk:wz.heap[w2.heap.size]?=some (.cells #[.B,.U,.U,.I,.U,.B,.z,.n,.I,.F,.F,.n,.I,.V,.I,.V,.n,.n,.U,.I,.I,.V,.n] 42 (0,0)):=by rw[Kn];exact aj w2 _
 obtain⟨w3,kJ⟩:=cF (wz.setCells w2.heap.size 0 cs);have k3:w3.heap[w2.heap.size]?=some (.cells cs.toArray 42 (0,0)):=by rw[kJ];exact gq hbk hcl
 have eO:cE w2 w3:=by rw[kJ];exact jc (w1:=w2) hbz 0 _ (aG _)
 have HT:Hid (wz.there w2.heap.size 0 cs.toArray.size):=cD (ey hbk 0 _ (by rw[aB,hcl];simp));have HSC:Hid (cG 42 cs.toArray.size):=cD (by rw[aB,hcl];exact afp.out);have gG:=cD hone;have uR:=cD (cC Kn (cC kJ (cC k3 (cC eO dI))));have HC:=cD yF;have pT:=cD hcl;clear Kn hbz hsz Ss hbk kJ k3 eO dI yF hcl hone;by_cases hok:mF D=true
 ·obtain⟨kd,Fa⟩:∃k,k=(eM D).kind:=⟨_,rfl⟩
  have hex:x=0∧(∃e1 e2 e3 e4 e5 e6 e7 e8 e9 sD qo uQ uP uO uN uM uL uK uJ uH uG uF,cs=[.b (kd:Int),e1,e2,e3,e4,e5,e6,e7,e8,e9,sD,qo,uQ,uP,uO,uN,uM,uL,uK,uJ,uH,uG,uF])∧mE (eM D):=by
   rcases HC.out with ⟨_,h2,o,i,fa,fc,L,E,h3,_⟩|⟨h1,_⟩
   ·refine⟨h2,⟨.u ((eM D).oE:Int),.u ((eM D).req:Int),.i (eM D).os,.u ((eM D).on:Int),.b o.kind,.s o.cW,.slice o.da o.dn o.dc,.i o.gW,.bool o.seq,.bool o.mV,.slice o.pa o.pn o.pc,.i (eM D).eu.ew,.v ((eM D).eu.seq:Int),.i (eM D).eu.dO,.v ((eM D).eu.ep:Int),.slice i.sa (eM D).eu.de.length i.sc,.slice i.ea (eM D).eu.dF.length i.ec,.u ((eM D).eu.cl:Int),.i (eM D).dy,.i (eM D).dO,.v ((eM D).ep:Int),.slice fa (eM D).fr.length fc,?_⟩,ox (by have:=hok;unfold mF at this;simp only[Bool.and_eq_true] at this;exact this.1)⟩
    rw[h3,Fa];rfl
   rw[hok] at h1;cases h1
  obtain⟨rfl,⟨e1,e2,e3,e4,e5,e6,e7,e8,e9,sD,qo,uQ,uP,uO,uN,uM,uL,uK,uJ,uH,uG,uF,hcs⟩,hes⟩:=hex;have hY:Y=m.apply (eM D):=by rw[HY.out,if_pos hok]
  have vP:kd<256:=by rw[Fa];exact hes.kind
  subst hcs;obtain⟨w5a,Wj⟩:=cF (w3.alloc (.cells #[.B,.U,.U,.I,.U,.B,.z,.n,.I,.F,.F,.n,.I,.V,.I,.V,.n,.n,.U,.I,.I,.V,.n,.I,.z,.n,.U,.U,.U,.I,.U,.V,.V,.V,.n,.n,.I,.V,.I,.V,.n,.n,.U] 49));have k5a:w5a.heap[w3.heap.size]?=some (.cells #[.B,.U,.U,.I,.U,.B,.z,.n,.I,.F,.F,.n,.I,.V,.I,.V,.n,.n,.U,.I,.I,.V,.n,.I,.z,.n,.U,.U,.U,.I,.U,.V,.V,.V,.n,.n,.I,.V,.I,.V,.n,.n,.U] 49 (0,0)):=by rw[Wj];exact aj w3 _
  have Uf:Hid (w5a.there w3.heap.size 0 43):=cD (ey k5a 0 43 cM);obtain⟨w5,nI⟩:=cF (w5a.setCells w3.heap.size 0 [.b (kd:Int),e1,e2,e3,e4,e5,e6,e7,e8,e9,sD,qo,uQ,uP,uO,uN,uM,uL,uK,uJ,uH,uG,uF,.I,.z,.n,.U,.U,.U,.I,.U,.V,.V,.V,.n,.n,.I,.V,.I,.V,.n,.n,.U]);have k5:w5.heap[w3.heap.size]?=some (.cells #[.b (kd:Int),e1,e2,e3,e4,e5,e6,e7,e8,e9,sD,qo,uQ,uP,uO,uN,uM,uL,uK,uJ,uH,uG,uF,.I,.z,.n,.U,.U,.U,.I,.U,.V,.V,.V,.n,.n,.I,.V,.I,.V,.n,.n,.U] 49 (0,0)):=by rw[nI];exact gq k5a rfl
  have jz:cE w3 w5:=by rw[nI,Wj];exact jc (w1:=w3) (cT (ah _ w3) _) 0 _ (aG _)
  have akk:Hid ((#[.b (kd:Int),e1,e2,e3,e4,e5,e6,e7,e8,e9,sD,qo,uQ,uP,uO,uN,uM,uL,uK,uJ,uH,uG,uF,.I,.z,.n,.U,.U,.U,.I,.U,.V,.V,.V,.n,.n,.I,.V,.I,.V,.n,.n,.U]:Array aF).all (·.oneCell')=true):=cD (by simpa [aA] using gG.out);have H5:=cD (cC k5 jz);have ajY:=cD Wj;have No:Hid (w3.rangeAt w2.heap.size 0 [.b (kd:Int),e1,e2,e3,e4,e5,e6,e7,e8,e9,sD,qo,uQ,uP,uO,uN,uM,uL,uK,uJ,uH,uG,uF]):=cD (dJ uR.out.2.2.1);have I3:Hid ((prog.info? 42).map (·.size)=some ([.b (kd:Int),e1,e2,e3,e4,e5,e6,e7,e8,e9,sD,qo,uQ,uP,uO,uN,uM,uL,uK,uJ,uH,uG,uF]:List aF).length):=cD afp.out;have Xi:=cD nI;have HYY:=cD (cC hY (cC hes (cC Fa (cC vP hok))));clear hY hes Fa vP hok nI Wj k5a k5 jz;go_wp2_with (first
   |(rw[←uR.out.1];refine ag rfl 42 (.tmp 5) (.tmp 18) rfl w2.heap.size 0 #[.b (kd:Int),e1,e2,e3,e4,e5,e6,e7,e8,e9,sD,qo,uQ,uP,uO,uN,uM,uL,uK,uJ,uH,uG,uF] rfl rfl HT.out HSC.out gG.out ?_;rw[au,←uR.out.2.1])
   |(refine an rfl 42 (.tmp 5) rfl w2.heap.size 0 rfl [.b (kd:Int),e1,e2,e3,e4,e5,e6,e7,e8,e9,sD,qo,uQ,uP,uO,uN,uM,uL,uK,uJ,uH,uG,uF] _ No.out underlying42 rfl I3.out ?_)
   |(rw[←ajY.out];refine ag rfl 49 (.tmp 7) (.tmp 26) rfl w3.heap.size 0 #[.b (kd:Int),e1,e2,e3,e4,e5,e6,e7,e8,e9,sD,qo,uQ,uP,uO,uN,uM,uL,uK,uJ,uH,uG,uF,.I,.z,.n,.U,.U,.U,.I,.U,.V,.V,.V,.n,.n,.I,.V,.I,.V,.n,.n,.U] rfl rfl Uf.out wM.out akk.out ?_;rw[←Xi.out])
   |fail)
  have c5:∀w',cE w5 w'→w'.cell? ⟨w2.heap.size,0,none⟩=some (.b (kd:Int)):=fun w' hb=>by
   have k3:=uR.out.2.2.1;have k5:=(H5.out.2.block _ (aq k3)).trans k3;exact aH _ _ 0 _ 42 (0,0) ((hb.block _ (aq k5)).trans k5)
  have HK:=cD HYY.out.2.2.2.1;refine rB fun wd hS=>?_
  refine tI 1 rfl hS ?_;refine tJ 2 rfl hS c5 ?_;simp only[cR];refine cI 0 rfl ?_;refine(NR wd).mono ?_;rintro e w6 ⟨mt,rfl,hT,hmt,uE⟩;have uh:=hS.trans (uE.mono hS.size);refine⟨uh,?_⟩;simp only[cR];obtain⟨fv,hfv,SD⟩:=hT.look kd HK.out;refine NC (S':=fun w'=>cE w6 w') (fun w' h=>uh.trans (h.mono uh.size)) _ _ _ _ ?_;have Bc:cE w6 w6:=ah _ w6;have HS6:=cD uh;have HFV:=cD hfv;obtain⟨iss,aaj⟩:∃b,b=(Lg kd).isSome:=⟨_,rfl⟩;rw[←aaj] at SD;have HIS:=cD aaj;clear hT hmt uE hfv hS uh aaj c5;refine tJ 3 rfl Bc SD ?_;refine tI 4 rfl Bc ?_;refine tI 5 rfl Bc ?_;refine tI 6 rfl Bc ?_;simp only[cR];refine tI 7 rfl Bc ?_;refine tI 8 rfl Bc ?_;simp only[cR];refine wpAnyH_done cJ ?_ _;clear SD Bc;cases iss with
  |false=>
   have k6:w6.heap[w3.heap.size]?=some (.cells #[.b (kd:Int),e1,e2,e3,e4,e5,e6,e7,e8,e9,sD,qo,uQ,uP,uO,uN,uM,uL,uK,uJ,uH,uG,uF,.I,.z,.n,.U,.U,.U,.I,.U,.V,.V,.V,.n,.n,.I,.V,.I,.V,.n,.n,.U] 49 (0,0)):=(HS6.out.block _ (aq H5.out.1)).trans H5.out.1;have d23:w6.cell? ⟨w3.heap.size,23,none⟩=some (.I):=aH _ _ 23 _ 49 (0,0) k6;have f23:w6.frozen? ⟨w3.heap.size,23,none⟩=false:=by simp[aJ,k6]
   obtain⟨w7,pI⟩:∃a,a=w6.setCell ⟨w3.heap.size,23,none⟩ (.i 1):=⟨_,rfl⟩;have k7:w7.heap[w3.heap.size]?=some (.cells #[.b (kd:Int),e1,e2,e3,e4,e5,e6,e7,e8,e9,sD,qo,uQ,uP,uO,uN,uM,uL,uK,uJ,uH,uG,uF,.i 1,.z,.n,.U,.U,.U,.I,.U,.V,.V,.V,.n,.n,.I,.V,.I,.V,.n,.n,.U] 49 (0,0)):=by rw[pI,heap_setCell_same w6 w3.heap.size 23 _ 49 _ k6];rfl
   have hlt3:w.heap.size+1≤w3.heap.size:=by
    have h1:=nS.out.2.2.1;have h2:=uR.out.2.2.2.2.size;have h3:=uR.out.2.2.2.1.size;omega
   have nY:cE w w7:=by
    obtain⟨_,dB,hs1,k1⟩:=nS.out;obtain⟨_,_,_,eO,dI⟩:=uR.out;have e1:cE w w3:=(dB.trans (dI.mono dB.size)).trans (eO.mono (ay dB.size dI.size));have e2:cE w w6:=(e1.trans (H5.out.2.mono e1.size)).trans (HS6.out.mono (ay e1.size H5.out.2.size));rw[pI];exact e2.trans (((cQ.refl (·=w3.heap.size) w6).setCell (p:=⟨w3.heap.size,23,none⟩) rfl _).below e2.size (fun b e=>by have e:b=w3.heap.size:=e;omega))
   have hkr:w7.heap[w.heap.size]?=some (.cells #[.B,.U,.U,.I,.U,.B,.z,.n,.I,.F,.F,.n,.I,.V,.I,.V,.n,.n,.U,.I,.I,.V,.n,.I,.z,.n,.U,.U,.U,.I,.U,.V,.V,.V,.n,.n,.I,.V,.I,.V,.n,.n,.U] 49 (0,0)):=by
    obtain⟨_,dB,hs1,k1⟩:=nS.out;obtain⟨_,_,_,eO,dI⟩:=uR.out;have e3:=(eO.block _ (by have:=dI.size;omega)).trans ((dI.block _ cK).trans k1);have e5:=(H5.out.2.block _ (aq e3)).trans e3;have e6:=(HS6.out.block _ (aq e5)).trans e5;rw[pI];exact((cQ.refl (·=w3.heap.size) w6).setCell (p:=⟨w3.heap.size,23,none⟩) rfl _).same e6 (fun e=>by have e:w.heap.size=w3.heap.size:=e;omega)
   have yZ:Hid (w7.there w.heap.size 0 43):=cD (ey hkr 0 43 cM);have HR7:Hid (w7.rangeAt w3.heap.size 0 [.b (kd:Int),e1,e2,e3,e4,e5,e6,e7,e8,e9,sD,qo,uQ,uP,uO,uN,uM,uL,uK,uJ,uH,uG,uF,.i 1,.z,.n,.U,.U,.U,.I,.U,.V,.V,.V,.n,.n,.I,.V,.I,.V,.n,.n,.U]):=cD (dJ k7);have akh:Hid ((#[.b (kd:Int),e1,e2,e3,e4,e5,e6,e7,e8,e9,sD,qo,uQ,uP,uO,uN,uM,uL,uK,uJ,uH,uG,uF,.i 1,.z,.n,.U,.U,.U,.I,.U,.V,.V,.V,.n,.n,.I,.V,.I,.V,.n,.n,.U]:Array aF).all (·.oneCell')=true):=cD (by simpa [aA] using gG.out);obtain⟨w8,uC⟩:∃a,a=w7.setCells w.heap.size 0 [.b (kd:Int),e1,e2,e3,e4,e5,e6,e7,e8,e9,sD,qo,uQ,uP,uO,uN,uM,uL,uK,uJ,uH,uG,uF,.i 1,.z,.n,.U,.U,.U,.I,.U,.V,.V,.V,.n,.n,.I,.V,.I,.V,.n,.n,.U]:=⟨_,rfl⟩;have Ii:cE w w8:=by rw[uC];exact jc (w1:=w) nY 0 _ (aG _)
   have Ee:=cD (cC pI (cC uC Ii));have sG:Hid ((prog.info? 49).map (·.size)=some ([.b (kd:Int),e1,e2,e3,e4,e5,e6,e7,e8,e9,sD,qo,uQ,uP,uO,uN,uM,uL,uK,uJ,uH,uG,uF,.i 1,.z,.n,.U,.U,.U,.I,.U,.V,.V,.V,.n,.n,.I,.V,.I,.V,.n,.n,.U]:List aF).length):=cD wM.out;clear pI uC Ii hkr nY k7 k6 hlt3;go_wp2_with (first
    |(rw[←Ee.out.1];refine an rfl 49 (.tmp 7) rfl w3.heap.size 0 rfl [.b (kd:Int),e1,e2,e3,e4,e5,e6,e7,e8,e9,sD,qo,uQ,uP,uO,uN,uM,uL,uK,uJ,uH,uG,uF,.i 1,.z,.n,.U,.U,.U,.I,.U,.V,.V,.V,.n,.n,.I,.V,.I,.V,.n,.n,.U] _ HR7.out underlying49 rfl sG.out ?_)
    |(refine an rfl 49 (.tmp 7) rfl w3.heap.size 0 rfl [.b (kd:Int),e1,e2,e3,e4,e5,e6,e7,e8,e9,sD,qo,uQ,uP,uO,uN,uM,uL,uK,uJ,uH,uG,uF,.i 1,.z,.n,.U,.U,.U,.I,.U,.V,.V,.V,.n,.n,.I,.V,.I,.V,.n,.n,.U] _ HR7.out underlying49 rfl sG.out ?_)
    |(refine ag rfl 49 (.tmp 4) (.tmp 38) rfl w.heap.size 0 #[.b (kd:Int),e1,e2,e3,e4,e5,e6,e7,e8,e9,sD,qo,uQ,uP,uO,uN,uM,uL,uK,uJ,uH,uG,uF,.i 1,.z,.n,.U,.U,.U,.I,.U,.V,.V,.V,.n,.n,.I,.V,.I,.V,.n,.n,.U] rfl rfl yZ.out wM.out akh.out ?_;rw[←Ee.out.2.1])
    |fail)
   refine aD (dz rfl _ _ w.heap.size 0 [.b (kd:Int),e1,e2,e3,e4,e5,e6,e7,e8,e9,sD,qo,uQ,uP,uO,uN,uM,uL,uK,uJ,uH,uG,uF,.i 1,.z,.n,.U,.U,.U,.I,.U,.V,.V,.V,.n,.n,.I,.V,.I,.V,.n,.n,.U] _ rfl (by rw[Ee.out.2.1];exact aa _ _ _ _ yZ.out) underlying49 rfl sG.out) rfl ?_;have hn:Lg (eM D).kind=none:=by
    rw[←HYY.out.2.2.1];have:=HIS.out;cases hd:Lg kd with
    |none=>rfl
    |some f=>rw[hd] at this;cases this
   rw[HYY.out.1,LF hn];exact⟨[.b (kd:Int),e1,e2,e3,e4,e5,e6,e7,e8,e9,sD,qo,uQ,uP,uO,uN,uM,uL,uK,uJ,uH,uG,uF],[.i 1,.z,.n,.U,.U,.U,.I,.U,.V,.V,.V,.n,.n],qL,[],rfl,rfl,gG.out,rfl,jV _ _ 1,oT _ _,⟨A.va,A.vc,A.ov,A.C,HH.out.1.below Ee.out.2.2,fun b e=>.inl e⟩,dA Ee.out.2.2⟩
  |true=>
  obtain⟨f,hf⟩:∃f,Lg kd=some f:=by
   have:=HIS.out;cases hd:Lg kd with
   |none=>rw[hd] at this;cases this
   |some f=>exact⟨f,rfl⟩
  have hfe:fv=.func (.func f) #[] #[]:=by rw[HFV.out,hf];rfl
  clear HFV;subst hfe;have DG:=Lf hf;have k6:w6.heap[w3.heap.size]?=some (.cells #[.b (kd:Int),e1,e2,e3,e4,e5,e6,e7,e8,e9,sD,qo,uQ,uP,uO,uN,uM,uL,uK,uJ,uH,uG,uF,.I,.z,.n,.U,.U,.U,.I,.U,.V,.V,.V,.n,.n,.I,.V,.I,.V,.n,.n,.U] 49 (0,0)):=(HS6.out.block _ (aq H5.out.1)).trans H5.out.1;have ue:cE w w2:=nS.out.2.1.trans (uR.out.2.2.2.2.mono nS.out.2.1.size);have Fh:cE w2 w6:=(uR.out.2.2.2.1.trans (H5.out.2.mono uR.out.2.2.2.1.size)).trans (HS6.out.mono (ay uR.out.2.2.2.1.size H5.out.2.size));have HDO:Hid (aM prog f #[.p A.mb,.p w3.heap.size] w6 (iC (w.heap.size+1) w0 w6 (A.app w.heap.size w3.heap.size) w3.heap.size [.b (kd:Int),e1,e2,e3,e4,e5,e6,e7,e8,e9,sD,qo,uQ,uP,uO,uN,uM,uL,uK,uJ,uH,uG,uF] Y)):=cD (by
   rcases HC.out with ⟨_,_,o,i,fa,fc,L,E,hcs,hE⟩|⟨h1,_⟩
   ·have zx:=HH.out.1.newF nS.out.2.1 (D:=w.heap.size) (aG _) (by have:=nS.out.2.2.1;omega)
    rw[HYY.out.1,←nS.out.2.2.1];exact WZ (PD zx HH.out.2.2.1 (by have:=HH.out.2.2.2;omega) HYY.out.2.1 uR.out.2.2.2.2 Fh uR.out.2.2.2.1.size hcs hE k6) HH.out.2.2.2 (by rw[←HYY.out.2.2.1];exact hf)
   rw[HYY.out.2.2.2.2] at h1;cases h1)
  have hlt3:w.heap.size+1≤w3.heap.size:=by
   have h1:=nS.out.2.2.1;have h2:=uR.out.2.2.2.2.size;have h3:=uR.out.2.2.2.1.size;omega
  have XQ:w6.heap[w.heap.size]?=some (.cells #[.B,.U,.U,.I,.U,.B,.z,.n,.I,.F,.F,.n,.I,.V,.I,.V,.n,.n,.U,.I,.I,.V,.n,.I,.z,.n,.U,.U,.U,.I,.U,.V,.V,.V,.n,.n,.I,.V,.I,.V,.n,.n,.U] 49 (0,0)):=by
   obtain⟨_,dB,hs1,k1⟩:=nS.out;obtain⟨_,_,_,eO,dI⟩:=uR.out;have e3:=(eO.block _ (by have:=dI.size;omega)).trans ((dI.block _ cK).trans k1);have e5:=(H5.out.2.block _ (aq e3)).trans e3;exact(HS6.out.block _ (aq e5)).trans e5
  have HB:=cD (cC (ue.trans (Fh.mono ue.size)) (cC hlt3 XQ));clear k6 ue Fh hf hlt3 XQ;go_wp2_with fail
  refine HDO.out.mono ?_;rintro e w7 ⟨⟨cc,e0,R,r,Lr,rfl,hDB,hRA,hI,UE⟩,hst,hk⟩;have hR0:=C7 hRA;have TF:w7.cell? ⟨w3.heap.size,23,none⟩=some (.i e0):=(hDB.rM 0 cL).trans hR0;have f23:w7.frozen? ⟨w3.heap.size,23,none⟩=false:=by simp[aJ,hDB.blk]
  have hres:w7.heap[w.heap.size]?=some (.cells #[.B,.U,.U,.I,.U,.B,.z,.n,.I,.F,.F,.n,.I,.V,.I,.V,.n,.n,.U,.I,.I,.V,.n,.I,.z,.n,.U,.U,.U,.I,.U,.V,.V,.V,.n,.n,.I,.V,.I,.V,.n,.n,.U] 49 (0,0)):=hk.same HB.out.2.2 (fun e=>by
   have hl:=HB.out.2.1;rcases e with e|e
   ·have e:A.Z w.heap.size:=e
    have:=HH.out.1.ze e;omega
   omega)
  have HE:=cD (cC hDB (cC hRA (cC hI (cC UE (cC hst (cC hk hres))))));clear hDB hRA hI UE hst hk hR0 DG hres;by_cases h1:cc=0
  ·subst h1
   have XI:Y.2.e=e0:=by
    have:=HE.out.2.2.2.1.1
    rwa [if_neg (fun h=>h.1 rfl)] at this
   have Nn:Hid (DB w7 w3.heap.size [.b (kd:Int),e1,e2,e3,e4,e5,e6,e7,e8,e9,sD,qo,uQ,uP,uO,uN,uM,uL,uK,uJ,uH,uG,uF] R (cU Y.2.i r)):=cD (HE.out.1);obtain⟨Z,hZ⟩:∃Z,Z=[.b (kd:Int),e1,e2,e3,e4,e5,e6,e7,e8,e9,sD,qo,uQ,uP,uO,uN,uM,uL,uK,uJ,uH,uG,uF]++R++cU Y.2.i r:=⟨_,rfl⟩;have Ba:Z.length=43:=by rw[hZ,af,af,Nn.out.le,Nn.out.lr,Nn.out.li]
   have HZR:Hid (w7.rangeAt w3.heap.size 0 Z):=cD (by rw[hZ];exact dJ Nn.out.blk);have Ub:Hid (cG 49 Z.length):=cD (by rw[Ba];exact wM.out);have HZA:Hid (cG 49 Z.toArray.size):=cD (by rw[aB,Ba];exact wM.out);have HZT:Hid (w7.there w.heap.size 0 Z.toArray.size):=cD (by rw[show Z.toArray.size=43 by simpa using Ba];exact ey HE.out.2.2.2.2.2.2 0 43 cM);have LL:Hid (w7.there w.heap.size 0 Z.length):=cD (by rw[Ba];exact ey HE.out.2.2.2.2.2.2 0 43 cM);have HZO:Hid ((Z.toArray:Array aF).all (·.oneCell')=true):=cD (by rw[hZ];exact vY gG.out (qV HE.out.2.1));have HFI:Hid (gp w0 w A Y (.returned (.agg Z.toArray)) (w7.setCells w.heap.size 0 Z)):=cD (by
    have:=xX (Y:=Y) HH.out.1 gG.out HB.out.1 HB.out.2.1 HE.out.2.2.2.2.2.1 HE.out.2.2.2.2.2.2 HE.out.2.2.2.2.1 HE.out.1 (by rw[XI];exact HE.out.2.1) HE.out.2.2.1
    rwa [←hZ] at this)
   clear hZ Ba XI TF f23;go_wp2_with (first
    |(refine an rfl 49 (.tmp 7) rfl w3.heap.size 0 rfl Z _ HZR.out underlying49 rfl Ub.out ?_)
    |(refine ag rfl 49 (.tmp 4) (.tmp 53) rfl w.heap.size 0 Z.toArray rfl rfl HZT.out HZA.out HZO.out ?_;rw[au])
    |fail)
   refine aD (dz rfl _ _ w.heap.size 0 Z _ rfl (aa _ _ _ _ LL.out) underlying49 rfl Ub.out) rfl ?_;exact HFI.out
  by_cases h2:e0=0
  ·subst h2
   have t43:(cc != 0)=true:=by simpa using h1
   have HC0:=cD h1;have hz:=HE.out.2.2.2.1.2 h1;have XI:Y.2.e=cc:=by
    have:=HE.out.2.2.2.1.1
    rwa [if_pos ⟨h1,rfl⟩] at this
   have hDz:DB w7 w3.heap.size [.b (kd:Int),e1,e2,e3,e4,e5,e6,e7,e8,e9,sD,qo,uQ,uP,uO,uN,uM,uL,uK,uJ,uH,uG,uF] zR zI:=by
    have:=HE.out.1
    rwa [hz.1,hz.2.1,hz.2.2.2.1,L4] at this
   obtain⟨w8,uC⟩:∃a,a=w7.setCell ⟨w3.heap.size,23,none⟩ (.i cc):=⟨_,rfl⟩;obtain⟨O7,xI,hD8⟩:=Qa (cc:=cc) HB.out.2.1 HE.out.2.2.2.2.2.1 HE.out.2.2.2.2.1 hDz;rw[←uC] at O7 xI hD8;have MP:w8.heap[w.heap.size]?=some (.cells #[.B,.U,.U,.I,.U,.B,.z,.n,.I,.F,.F,.n,.I,.V,.I,.V,.n,.n,.U,.I,.I,.V,.n,.I,.z,.n,.U,.U,.U,.I,.U,.V,.V,.V,.n,.n,.I,.V,.I,.V,.n,.n,.U] 49 (0,0)):=by
    rw[uC];exact((cQ.refl (·=w3.heap.size) w7).setCell (p:=⟨w3.heap.size,23,none⟩) rfl _).same HE.out.2.2.2.2.2.2 (fun e=>by have e:w.heap.size=w3.heap.size:=e;have:=HB.out.2.1;omega)
   have Nn:Hid (DB w8 w3.heap.size [.b (kd:Int),e1,e2,e3,e4,e5,e6,e7,e8,e9,sD,qo,uQ,uP,uO,uN,uM,uL,uK,uJ,uH,uG,uF] (zR.set 0 (.i cc)) zI):=cD hD8;obtain⟨Z,hZ⟩:∃Z,Z=[.b (kd:Int),e1,e2,e3,e4,e5,e6,e7,e8,e9,sD,qo,uQ,uP,uO,uN,uM,uL,uK,uJ,uH,uG,uF]++zR.set 0 (.i cc)++zI:=⟨_,rfl⟩;have Ba:Z.length=43:=by rw[hZ,af,af,Nn.out.le,Nn.out.lr,Nn.out.li]
   have HZR:Hid (w8.rangeAt w3.heap.size 0 Z):=cD (by rw[hZ];exact dJ Nn.out.blk);have Ub:Hid (cG 49 Z.length):=cD (by rw[Ba];exact wM.out);have HZA:Hid (cG 49 Z.toArray.size):=cD (by rw[aB,Ba];exact wM.out);have HZT:Hid (w8.there w.heap.size 0 Z.toArray.size):=cD (by rw[show Z.toArray.size=43 by simpa using Ba];exact ey MP 0 43 cM);have LL:Hid (w8.there w.heap.size 0 Z.length):=cD (by rw[Ba];exact ey MP 0 43 cM);have hrb:fQ w8 (fU (w.heap.size+1)) (.agg (zR.set 0 (.i cc)).toArray) cc lX []:=jV _ _ cc;have HZO:Hid ((Z.toArray:Array aF).all (·.oneCell')=true):=cD (by rw[hZ];exact vY (x:=mY) (r:=qL) gG.out (qV hrb));have HFI:Hid (gp w0 w A Y (.returned (.agg Z.toArray)) (w8.setCells w.heap.size 0 Z)):=cD (by
    have:=xX (Y:=Y) (R:=zR.set 0 (.i cc)) (r:=qL) (L:=[]) HH.out.1 gG.out HB.out.1 HB.out.2.1 O7 MP xI (by rw[hz.2.2.2.1,L4];exact hD8) (by rw[XI,hz.2.2.2.2.1,hz.2.2.2.2.2];exact hrb) (by rw[hz.2.2.2.1];exact oT _ _)
    rwa [hz.2.2.2.1,L4,←hZ] at this)
   have Ee:=cD uC;clear hZ Ba hz XI hDz O7 xI hD8 MP hrb uC h1;go_wp2_with (first
    |(rw[←Ee.out];refine an rfl 49 (.tmp 7) rfl w3.heap.size 0 rfl Z _ HZR.out underlying49 rfl Ub.out ?_)
    |(refine an rfl 49 (.tmp 7) rfl w3.heap.size 0 rfl Z _ HZR.out underlying49 rfl Ub.out ?_)
    |(refine ag rfl 49 (.tmp 4) (.tmp 53) rfl w.heap.size 0 Z.toArray rfl rfl HZT.out HZA.out HZO.out ?_;rw[au])
    |fail)
   refine aD (dz rfl _ _ w.heap.size 0 Z _ rfl (aa _ _ _ _ LL.out) underlying49 rfl Ub.out) rfl ?_;exact HFI.out
  have t43:(cc != 0)=true:=by simpa using h1
  have t48:(e0==0)=false:=by simpa using h2
  have XI:Y.2.e=e0:=by
   have:=HE.out.2.2.2.1.1
   rwa [if_neg (fun h=>h2 h.2)] at this
  have Nn:Hid (DB w7 w3.heap.size [.b (kd:Int),e1,e2,e3,e4,e5,e6,e7,e8,e9,sD,qo,uQ,uP,uO,uN,uM,uL,uK,uJ,uH,uG,uF] R (cU Y.2.i r)):=cD (HE.out.1);obtain⟨Z,hZ⟩:∃Z,Z=[.b (kd:Int),e1,e2,e3,e4,e5,e6,e7,e8,e9,sD,qo,uQ,uP,uO,uN,uM,uL,uK,uJ,uH,uG,uF]++R++cU Y.2.i r:=⟨_,rfl⟩;have Ba:Z.length=43:=by rw[hZ,af,af,Nn.out.le,Nn.out.lr,Nn.out.li]
  have HZR:Hid (w7.rangeAt w3.heap.size 0 Z):=cD (by rw[hZ];exact dJ Nn.out.blk);have Ub:Hid (cG 49 Z.length):=cD (by rw[Ba];exact wM.out);have HZA:Hid (cG 49 Z.toArray.size):=cD (by rw[aB,Ba];exact wM.out);have HZT:Hid (w7.there w.heap.size 0 Z.toArray.size):=cD (by rw[show Z.toArray.size=43 by simpa using Ba];exact ey HE.out.2.2.2.2.2.2 0 43 cM);have LL:Hid (w7.there w.heap.size 0 Z.length):=cD (by rw[Ba];exact ey HE.out.2.2.2.2.2.2 0 43 cM);have HZO:Hid ((Z.toArray:Array aF).all (·.oneCell')=true):=cD (by rw[hZ];exact vY gG.out (qV HE.out.2.1));have HFI:Hid (gp w0 w A Y (.returned (.agg Z.toArray)) (w7.setCells w.heap.size 0 Z)):=cD (by
   have:=xX (Y:=Y) HH.out.1 gG.out HB.out.1 HB.out.2.1 HE.out.2.2.2.2.2.1 HE.out.2.2.2.2.2.2 HE.out.2.2.2.2.1 HE.out.1 (by rw[XI];exact HE.out.2.1) HE.out.2.2.1
   rwa [←hZ] at this)
  clear hZ Ba XI f23 h1 h2;go_wp2_with (first
   |(refine an rfl 49 (.tmp 7) rfl w3.heap.size 0 rfl Z _ HZR.out underlying49 rfl Ub.out ?_)
   |(refine ag rfl 49 (.tmp 4) (.tmp 53) rfl w.heap.size 0 Z.toArray rfl rfl HZT.out HZA.out HZO.out ?_;rw[au])
   |fail)
  refine aD (dz rfl _ _ w.heap.size 0 Z _ rfl (aa _ _ _ _ LL.out) underlying49 rfl Ub.out) rfl ?_;exact HFI.out
 have hx:x=2:=by rcases HC.out with ⟨h1,_⟩|⟨_,h2,_⟩;exact absurd h1 hok;exact h2
 subst hx;have hY:Y=(m,oI 2):=by rw[HY.out,if_neg hok]
 have HY2:=cD hY;clear hY;obtain⟨w4,lP⟩:=cF (w3.setCells w.heap.size 0 [.B,.U,.U,.I,.U,.B,.z,.n,.I,.F,.F,.n,.I,.V,.I,.V,.n,.n,.U,.I,.I,.V,.n,.i 2,.z,.n,.U,.U,.U,.I,.U,.V,.V,.V,.n,.n,.I,.V,.I,.V,.n,.n,.U]);have hk1:w3.heap[w.heap.size]?=some (.cells #[.B,.U,.U,.I,.U,.B,.z,.n,.I,.F,.F,.n,.I,.V,.I,.V,.n,.n,.U,.I,.I,.V,.n,.I,.z,.n,.U,.U,.U,.I,.U,.V,.V,.V,.n,.n,.I,.V,.I,.V,.n,.n,.U] 49 (0,0)):=by
  obtain⟨_,dB,hs1,k1⟩:=nS.out;obtain⟨_,_,_,eO,dI⟩:=uR.out;exact(eO.block _ (by have:=dI.size;omega)).trans ((dI.block _ cK).trans k1)
 have yZ:Hid (w3.there w.heap.size 0 43):=cD (ey hk1 0 43 cM);have aki:Hid ((#[.B,.U,.U,.I,.U,.B,.z,.n,.I,.F,.F,.n,.I,.V,.I,.V,.n,.n,.U,.I,.I,.V,.n,.i 2,.z,.n,.U,.U,.U,.I,.U,.V,.V,.V,.n,.n,.I,.V,.I,.V,.n,.n,.U]:Array aF).all (·.oneCell')=true):=cD (by simp[aA]);have Jk:=cD lP;have Nq:=cD hok;clear lP hk1 hok;go_wp2_with (first
  |(rw[←uR.out.1];refine ag rfl 42 (.tmp 5) (.tmp 18) rfl w2.heap.size 0 cs.toArray rfl rfl HT.out HSC.out gG.out ?_;rw[au,←uR.out.2.1])
  |(refine ag rfl 49 (.tmp 4) (.tmp 24) rfl w.heap.size 0 #[.B,.U,.U,.I,.U,.B,.z,.n,.I,.F,.F,.n,.I,.V,.I,.V,.n,.n,.U,.I,.I,.V,.n,.i 2,.z,.n,.U,.U,.U,.I,.U,.V,.V,.V,.n,.n,.I,.V,.I,.V,.n,.n,.U] rfl rfl yZ.out wM.out aki.out ?_;rw[←Jk.out])
  |fail)
 refine aD (dz rfl _ _ w.heap.size 0 [.B,.U,.U,.I,.U,.B,.z,.n,.I,.F,.F,.n,.I,.V,.I,.V,.n,.n,.U,.I,.I,.V,.n,.i 2,.z,.n,.U,.U,.U,.I,.U,.V,.V,.V,.n,.n,.I,.V,.I,.V,.n,.n,.U] _ rfl (by rw[Jk.out];exact aa _ _ _ _ yZ.out) underlying49 rfl wM.out) rfl ?_;have MU:cE w w4:=by
  obtain⟨_,dB,hs1,k1⟩:=nS.out;obtain⟨_,_,_,eO,dI⟩:=uR.out;have e1:cE w w3:=(dB.trans (dI.mono dB.size)).trans (eO.mono (ay dB.size dI.size));rw[Jk.out];exact jc (w1:=w) e1 0 _ (aG _)
 rw[HY2.out];exact⟨[.B,.U,.U,.I,.U,.B,.z,.n,.I,.F,.F,.n,.I,.V,.I,.V,.n,.n,.U,.I,.I,.V,.n],[.i 2,.z,.n,.U,.U,.U,.I,.U,.V,.V,.V,.n,.n],qL,[],rfl,rfl,by simp[aA],rfl,jV _ _ 2,oT _ _,⟨A.va,A.vc,A.ov,A.C,HH.out.1.below MU,fun b e=>.inl e⟩,dA MU⟩
end
theorem Pq:mF []=false:=by decide+kernel
theorem cV.WV(m:cV)(X:jA):(if mF (zJ X) then m.apply (eM (zJ X)) else (m,oI 2))=m.done X:=by
 unfold cV.done;by_cases h:Cl X=0
 ·rw[if_pos h,if_pos (EE h).2.1]
 have e:zJ X=[]:=by unfold zJ;rw[if_neg h]
 rw[if_neg h,e,Pq];rfl
def MA.one(A:MA)(n:Nat):MA:={A with X:=fun b=>A.X b∨b=n,F:=fun b=>A.F b∨b=n}
theorem Tt{w0 w w3 w4:World}{A:MA}{m:cV}(h:cZ w0 w A m){Y:cV×kH}{E R:List aF}{r:ei}{L:List dr}{n:Nat}{cs:Array aF}(eO:cE w w3)(hn:w.heap.size≤n)(hn3:n<w3.heap.size)(hk:cQ A.Z w3 w4)
  (hres:w4.heap[n]?=some (.cells cs 49 (0,0))) (hst:∃va vc ov C,cZ w0 w4 ((A.one n).GG va vc ov C) Y.1∧∀b,ov.ownBlock=some b→A.ov.ownBlock=some b∨w3.heap.size≤b) (hE:E.length=23) (hone:(E.toArray:Array aF).all (·.oneCell')=true) (hl:R.length=13) (hR:fQ w4 (fU w3.heap.size) (.agg R.toArray) Y.2.e Y.2.a Y.2.r) (hI:ez w4 (fun b=>w3.heap.size≤b∧yb w4 A.mb b) r L Y.2.i):
  gp w0 w A Y (.returned (.agg (E++R++cU Y.2.i r).toArray)) (w4.setCells n 0 (E++R++cU Y.2.i r)):=by
 have O7:=iw w4 n 0 (E++R++cU Y.2.i r);have h3:=eO.size;obtain⟨va,vc,ov,C,hm,DE⟩:=hst;have Wp:=(hm.Il O7 (fun b e=>by
   have e:b=n:=e;subst e;exact⟨.inr rfl,.inr rfl,gT hres⟩)).XA (X:=A.X) (F:=A.F) (fun b e=>.inl e) (fun b e=>.inl e)
 refine⟨E,R,r,L,rfl,hE,hone,hl,(hR.dZ O7 (fun k hk _ e=>?_)).mono (fun k hk=>ay h3 hk),(hI.kept O7 (fun k hk e=>?_)).mono (fun k hk=>⟨ay h3 hk.1,Wp.AJ (hk.2 _ hm.cells.2.2.2.2.2.2)⟩),?_,?_⟩
 ·have e:k=n:=e
  have hk:w3.heap.size≤k:=hk;omega
 ·have e:k=n:=e
  have hk:w3.heap.size≤k:=hk.1;omega
 ·exact⟨va,vc,ov,C,Wp,fun b e=>(DE b e).imp id (fun e2=>ay h3 e2)⟩
 have k1:cQ (fun b=>A.Z b∨b=n) w (w4.setCells n 0 (E++R++cU Y.2.i r)):=((dA eO).trans (hk.mono (fun b _ e=>.inl e))).trans (O7.mono (fun b _ e=>.inr e));exact⟨k1.os,k1.tape,k1.output,k1.size,fun b hlt hnb=>k1.block b hlt (fun e=>by
  rcases e with e|e
  ·exact hnb e
  omega)⟩
section
variable{w0 w:World}{A:MA}{m:cV}{N:Nat}
theorem Tu(h:cZ w0 w A m)(ok:m.Ok N)(hN:N≤80000){X:jA}{o:di}{i:ei}{L:List dr}{fa:Option Addr}{fc:Nat}(hX:pV w X o i L fa)(hM:ki w o X.oP):
  aM prog 13 #[.p A.mb,.agg (X.cells o i fa fc).toArray] w (gp w0 w A (m.done X)):=by
 obtain⟨CS,uj⟩:∃l,l=X.cells o i fa fc:=⟨_,rfl⟩;have SR:CS.length=23:=by rw[uj];rfl
 obtain⟨w1,hw1⟩:∃a,a=w.alloc (.cells CS.toArray 42):=⟨_,rfl⟩;have dB:cE w w1:=by rw[hw1];exact cT (ah _ w) _
 have hs1:w1.heap.size=w.heap.size+1:=by rw[hw1];simp
 obtain⟨w2,fH⟩:∃a,a=w1.alloc (.cells #[.B,.U,.U,.I,.U,.B,.z,.n,.I,.F,.F,.n,.I,.V,.I,.V,.n,.n,.U,.I,.I,.V,.n,.I,.z,.n,.U,.U,.U,.I,.U,.V,.V,.V,.n,.n,.I,.V,.I,.V,.n,.n,.U] 49):=⟨_,rfl⟩;have dI:cE w1 w2:=by rw[fH];exact cT (ah _ w1) _
 have hs2:w2.heap.size=w1.heap.size+1:=by rw[fH];simp
 have k2:w2.heap[w1.heap.size]?=some (.cells #[.B,.U,.U,.I,.U,.B,.z,.n,.I,.F,.F,.n,.I,.V,.I,.V,.n,.n,.U,.I,.I,.V,.n,.I,.z,.n,.U,.U,.U,.I,.U,.V,.V,.V,.n,.n,.I,.V,.I,.V,.n,.n,.U] 49 (0,0)):=by rw[fH];exact aj w1 _
 have k1:w2.heap[w.heap.size]?=some (.cells CS.toArray 42 (0,0)):=(dI.block _ cK).trans (by rw[hw1];exact aj w _);have HRC:Hid (w2.rangeAt w.heap.size 0 CS):=cD (dJ k1);have HPE:=cD (N8 w2 X o i L fa fc (hX.below (dB.trans (dI.mono dB.size))) (hM.below (dB.trans (dI.mono dB.size))));rw[←uj] at HPE⊢;have Cb:Hid (cG 42 CS.length):=cD (by rw[SR];exact cH);have wM:Hid (cG 49 43):=cD cJ;have HW:=cD (cC hw1 (cC fH (cC (dB.trans (dI.mono dB.size)) (cC k2 (cC hs1 hs2)))));have HH:=cD (cC h (cC ok hN));clear uj SR hw1 fH dB dI hs1 hs2 k1 k2 h ok hN hX hM;go_enter func13,ntmps13
 go_wp2_with (first
  |(rw[←HW.out.1])
  |(rw[←HW.out.2.1])
  |(refine an rfl 42 (.tmp 3) rfl w.heap.size 0 rfl CS _ HRC.out underlying42 rfl Cb.out ?_)
  |fail)
 refine HPE.out.mono ?_;rintro e w3 ⟨a,n,c,rfl,hp⟩;have eO:cE w w3:=HW.out.2.2.1.trans (hp.bl.mono HW.out.2.2.1.size);have hR3:w1.heap.size<w3.heap.size:=aC (aq HW.out.2.2.2.1) hp.bl.size;have hwR:w.heap.size≤w1.heap.size:=by have:=HW.out.2.2.2.2.1;omega
 have AV:=HH.out.1.newF eO (D:=w1.heap.size) hwR hR3;have hDl:(zJ X).length≤1000000000:=by
  by_cases h:Cl X=0
  ·have:=(EE h).2.1
   unfold mF at this;simp only[Bool.and_eq_true,decide_eq_true_eq] at this;omega
  unfold zJ;rw[if_neg h];simp
 have QG:Hid (aM prog 24 #[.p A.mb,.slice a n c] w3 (gp w0 w3 (A.one w1.heap.size) (m.done X))):=cD (by
  have:=sF (A:=A.one w1.heap.size) AV HH.out.2.1 HH.out.2.2 hp.cS hDl;rw[cV.WV] at this;rw[hp.len];exact this)
 have kR3:w3.heap[w1.heap.size]?=some (.cells #[.B,.U,.U,.I,.U,.B,.z,.n,.I,.F,.F,.n,.I,.V,.I,.V,.n,.n,.U,.I,.I,.V,.n,.I,.z,.n,.U,.U,.U,.I,.U,.V,.V,.V,.n,.n,.I,.V,.I,.V,.n,.n,.U] 49 (0,0)):=(hp.bl.block _ (aq HW.out.2.2.2.1)).trans HW.out.2.2.2.1;have H3:=cD (cC eO (cC hR3 (cC hwR kR3)));clear eO hR3 hwR AV hDl kR3 hp;go_wp2_with fail
 refine QG.out.mono ?_;rintro e w4 ⟨E,R,r,Lr,rfl,hE,hone,hl,hR,hI,hst,hk⟩;have kR4:w4.heap[w1.heap.size]?=some (.cells #[.B,.U,.U,.I,.U,.B,.z,.n,.I,.F,.F,.n,.I,.V,.I,.V,.n,.n,.U,.I,.I,.V,.n,.I,.z,.n,.U,.U,.U,.I,.U,.V,.V,.V,.n,.n,.I,.V,.I,.V,.n,.n,.U] 49 (0,0)):=hk.same H3.out.2.2.2 (fun e=>by
  have e:A.Z w1.heap.size:=e;have:=HH.out.1.ze e;have:=H3.out.2.2.1;omega)
 have hFI:=Tt (n:=w1.heap.size) HH.out.1 H3.out.1 H3.out.2.2.1 H3.out.2.1 hk kR4 hst hE hone hl hR hI;have hZO:((E++R++cU (m.done X).2.i r).toArray:Array aF).all (·.oneCell')=true:=vY hone (qV hR);obtain⟨Z,hZ⟩:=cF (E++R++cU (m.done X).2.i r);rw[←hZ] at hFI hZO⊢;have Ba:Z.length=43:=by rw[hZ,af,af,hE,hl];rfl
 have HFI:=cD hFI;have HZO:=cD hZO;have HZA:Hid (cG 49 Z.toArray.size):=cD (by rw[show Z.toArray.size=43 by simpa using Ba];exact wM.out);have Ub:Hid (cG 49 Z.length):=cD (by rw[Ba];exact wM.out);have HZT:Hid (w4.there w1.heap.size 0 Z.toArray.size):=cD (by rw[show Z.toArray.size=43 by simpa using Ba];exact ey kR4 0 43 cM);have LL:Hid (w4.there w1.heap.size 0 Z.length):=cD (by rw[Ba];exact ey kR4 0 43 cM);clear hFI hZO Ba hZ kR4 hE hone hl hR hI hst hk;go_wp2_with (first
  |(refine ag rfl 49 (.tmp 4) (.tmp 14) rfl w1.heap.size 0 Z.toArray rfl rfl HZT.out HZA.out HZO.out ?_;rw[au])
  |fail)
 refine aD (dz rfl _ _ w1.heap.size 0 Z _ rfl (aa _ _ _ _ LL.out) underlying49 rfl Ub.out) rfl ?_;exact HFI.out
end
theorem C3{w0 w:World}(bl:cE w0 w)(mx:dM w0)(pow:iz w0){ao:Option Addr}{c:Nat}{L:List cO}(hbig:L.length≤1000)(hL:∀r∈L,r.length≤1000)(hS:gZ w w.heap.size ao L)(s n:Int):
  aM prog 12 #[.i s,.i n,.slice ao L.length c] w (aa8 w0 w s n L):=by
 have FW:=cD (Fy ao c L w (mx.kept bl) hbig hL hS);have HH:=cD (cC bl (cC mx (cC pow (cC hbig (cC hL hS)))));obtain⟨N,hN⟩:=cF L.length;rw[←hN] at FW⊢;have HN:=cD hN;clear bl mx pow hbig hL hS hN;by_cases h1:n<1
 ·have hx:qE s n L=1:=by unfold qE;rw[if_pos (.inl h1)]
  go_enter func12,ntmps12
  go_wp2_with fail
  go_ret2
  exact⟨ah _ _,.inl ⟨by rw[hx];decide,by rw[hx];rfl⟩⟩
 by_cases h2:3<n
 ·have hx:qE s n L=1:=by unfold qE;rw[if_pos (.inr (.inl h2))]
  go_enter func12,ntmps12
  go_wp2_with fail
  go_ret2
  exact⟨ah _ _,.inl ⟨by rw[hx];decide,by rw[hx];rfl⟩⟩
 by_cases h3:s<0
 ·have hx:qE s n L=1:=by unfold qE;rw[if_pos (.inr (.inr (.inl h3)))]
  go_enter func12,ntmps12
  go_wp2_with fail
  go_ret2
  exact⟨ah _ _,.inl ⟨by rw[hx];decide,by rw[hx];rfl⟩⟩
 by_cases h4:n≤s
 ·have hx:qE s n L=1:=by unfold qE;rw[if_pos (.inr (.inr (.inr h4)))]
  go_enter func12,ntmps12
  go_wp2_with fail
  go_ret2
  exact⟨ah _ _,.inl ⟨by rw[hx];decide,by rw[hx];rfl⟩⟩
 have hx:qE s n L=mB L:=by unfold qE;rw[if_neg cK]
 obtain⟨sn,rfl⟩:∃k:Nat,s=k:=⟨s.toNat,by omega⟩;obtain⟨nn,rfl⟩:∃k:Nat,n=k:=⟨n.toNat,by omega⟩;have HX:=cD (cC hx (cC h1 (cC h2 h4)));obtain⟨ck,Qw⟩:∃k,k=mB L:=⟨_,rfl⟩;rw[←Qw] at FW hx;have HK:=cD Qw;clear hx Qw;by_cases hc0:ck=0
 ·subst hc0
  go_enter func12,ntmps12
  go_wp2_with fail
  refine FW.out.mono ?_;rintro e w1 ⟨rfl,dB⟩;clear h1 h2 h3 h4;go_wp2_with fail
  obtain⟨bl,mx,pow,hbig,hL,hS⟩:=HH.out;have KD:cE w0 w1:=bl.trans (dB.mono bl.size);have xL:gZ w1 w1.heap.size ao L:=fun k p hk=>by
   obtain⟨b,off,e1,e2,e3⟩:=hS k p hk;exact⟨b,off,e1,aC e2 dB.size,(dB.cell (p:=⟨b,off+k,none⟩) e2).trans e3⟩
  have hL4:L.length≤4∧0<L.length∧∀r∈L,(dG r).isSome=true:=by
   have h0:=HK.out;unfold mB at h0;split at h0
   ·cases h0
   rename_i h5
   split at h0
   ·rename_i h6
    exact⟨by omega,by omega,fun r hr=>List.all_eq_true.1 h6 r hr⟩
   cases h0
  have pT:Hid (∀W,cE w1 W→aM prog 41 #[.slice ao N c] W (Ut L W)):=cD (fun W hW=>by
   rw[HN.out];exact mW ao c L W hbig (fun k p hk=>by
    obtain⟨b,off,e1,e2,e3⟩:=xL k p hk;exact⟨b,off,e1,aC e2 hW.size,(hW.cell (p:=⟨b,off+k,none⟩) e2).trans e3⟩))
  have H1:=cD (cC dB (cC KD (cC xL hL4)));clear dB KD xL bl mx pow hbig hL hS hL4;have hS:=ah w1.heap.size w1;refine(pT.out w1 hS).mono ?_;rintro e w2 ⟨dI,hcl⟩;obtain⟨ra,rc,rfl,Kw⟩:∃ra rc,e=.returned (.slice ra N rc)∧gK w2 (fun b=>w1.heap.size≤b) ra L:=by
   rcases hcl with ⟨h0,_⟩|⟨g,cap,h5,h6,h7,h8,h9⟩
   ·have:=H1.out.2.2.2.2.1
    rw[h0] at this;cases this
   rw[←HN.out] at h5;refine⟨some ⟨g,0,none⟩,cap,h5,fun k p hk=>⟨g,0,rfl,h6,h7,?_⟩⟩;have hkl:=(aL.1 hk).1;have h10:=(h9 k (by simpa using hkl)).1;have h11:L.toArray[k]! =p:=by simp[hk]
   rw[h11] at h10;simpa [encStr,bs,Value.s] using h10
  have HRA:=cD (cC Kw dI);clear hcl Kw dI;go_wp2_with fail
  refine(Jv w2 N (by rw[HN.out];exact H1.out.2.2.2.1) (fun _=>False)).mono ?_;rintro e w3 ⟨rfl,eO,DI⟩;have H3:=cD (cC eO DI);clear eO DI;go_wp2_with fail
  refine(VN (sn:Int) w3).mono ?_;rintro e w4 ⟨rfl,lP⟩;have Jk:=cD lP;clear lP;go_wp2_with fail
  refine(RL w4 nn (by have:=HX.out.2.2.1;omega)).mono ?_;rintro e w5 MK;obtain⟨va,vc,rfl,dV,Kt,jz⟩:=MK.sl;rw[List.length_replicate] at dV⊢;have H5:=cD (cC Kt jz);clear MK dV Kt jz;obtain⟨w6,mU⟩:∃a,a=w5.alloc (.cells #[.i (sn:Int),.slice ra N rc,.n,.p w2.heap.size,.p (w3.heap.size+1),.slice va nn vc,.n] 107):=⟨_,rfl⟩;have Ef:=cD mU;clear mU;go_upto_region 7 with (rw[←Ef.out])
  obtain⟨Kw,dI⟩:=HRA.out;obtain⟨eO,DI⟩:=H3.out;obtain⟨Kt,jz⟩:=H5.out;obtain⟨dB,KD,xL,hL4⟩:=H1.out;have hb4:cE w3 w4:=by rw[Jk.out];exact cT (cT (ah _ _) _) _
  have hs4:w4.heap.size=w3.heap.size+2:=by rw[Jk.out];simp
  have uE:cE w5 w6:=by rw[Ef.out];exact cT (ah _ _) _
  have MN:w6.heap.size=w5.heap.size+1:=by rw[Ef.out];simp
  have AV:w4.heap[w3.heap.size]?=some (.map #[] 0):=by rw[Jk.out];exact(heap_alloc_old _ _ cM).trans (aj w3 _)
  have X4:w4.heap[w3.heap.size+1]?=some (.cells #[.i (sn:Int),.U,.map (some w3.heap.size)] 198 (0,0)):=by
   have:=aj (w3.alloc (.map #[] 0)) (.cells #[.i (sn:Int),.U,.map (some w3.heap.size)] 198);rw[World.size_alloc] at this;rw[Jk.out];exact this
  have XO:iP w4 (w3.heap.size+1) w3.heap.size sn 0 []:=⟨X4,⟨#[],0,AV,MapKept.stamped_empty 0,fun x hx=>by simp at hx,rfl⟩⟩;have k6:w6.heap[w5.heap.size]?=some (.cells #[.i (sn:Int),.slice ra N rc,.n,.p w2.heap.size,.p (w3.heap.size+1),.slice va nn vc,.n] 107 (0,0)):=by rw[Ef.out];exact aj w5 _
  have s12:=dI.size;have s23:=eO.size;have s45:=jz.size;have s01:=dB.size;have hkl:w2.heap.size<w3.heap.size:=DI.lt;have b26:cE w2 w6:=eO.trans ((hb4.trans ((jz.trans (uE.mono jz.size)).mono hb4.size)).mono eO.size);have b36:cE w3 w6:=hb4.trans ((jz.trans (uE.mono jz.size)).mono hb4.size);have b46:cE w4 w6:=jz.trans (uE.mono jz.size);have hbase:Nk w0 w w6 sn nn L w5.heap.size w2.heap.size (w3.heap.size+1) w3.heap.size ra va rc vc:=by
   refine⟨⟨by omega,by omega⟩,by rw[←HN.out];exact k6,?_,?_,?_,?_,⟨by omega,by omega,by omega,by omega⟩,dB.trans ((dI.trans (b26.mono dI.size)).mono dB.size)⟩
   ·exact((Kw.mono (fun b h1 h2=>(⟨by omega,h2⟩:w.heap.size≤b∧b<w2.heap.size))).iN (dA (S:=fun _=>False) b26) (fun _ _ _ e=>e))
   ·rw[←HN.out]
    exact DI.kept (dA (S:=fun _=>False) b36) (fun e=>e) (fun _ e=>e.elim)
   ·exact XO.kept (dA (S:=fun _=>False) b46) (fun e=>e) (fun e=>e)
   exact(Kt.mono (fun b h1 h2=>(⟨by have h2:w4.heap.size≤b:=h2;omega,h1⟩:w3.heap.size+1<b∧b<w5.heap.size))).kept (dA (S:=fun _=>False) uE) (fun _ _ _ e=>e)
  have HBS:=cD hbase;have Jl:Hid (Ed w0 w6 w5.heap.size [.i sn,.slice ra L.length rc] [.p w2.heap.size,.p (w3.heap.size+1),.slice va nn vc,.n] L 0 (.n) [] w6):=cD
   ⟨rfl,by rw[←HN.out];exact k6,World.ownsRow_nil w6 w6.heap.size 57 1,(fun g hg=>by cases hg),(fun r b p hr _=>by simp at hr),List.nodup_nil,(fun b hb=>by cases hb),cQ.refl _ _⟩
  obtain⟨p0,hp0⟩:∃p,L[0]?=some p:=⟨_,aE hL4.2.1⟩;obtain⟨rb,ro,hao,_,_⟩:=xL 0 p0 hp0;subst hao;have hrow:∀(k:Nat) p wr,L[k]?=some p→cQ (·=w5.heap.size) w6 wr→wr.cell? ⟨rb,ro+k,none⟩=some (.s p):=fun k p wr hp hk=>by
   obtain⟨b,off,e1,e2,e3⟩:=xL k p hp;cases e1;have b16:cE w1 w6:=dI.trans (b26.mono dI.size);exact(hk.cell (p:=⟨rb,ro+k,none⟩) (aC e2 b16.size) (fun e=>by have e:rb=w5.heap.size:=e;omega)).trans ((b16.cell (p:=⟨rb,ro+k,none⟩) e2).trans e3)
  have aj9:=cD hrow;have HQ:Hid (∀x∈[Value.int .i64 sn,.slice ra L.length rc]++[.p w2.heap.size,.p (w3.heap.size+1),.slice va nn vc,.n],I9 x=true):=cD (fun x hx=>by
   simp only[List.cons_append,List.nil_append,List.mem_cons,List.not_mem_nil,or_false] at hx;rcases hx with rfl|rfl|rfl|rfl|rfl|rfl<;>rfl)
  have hN4:N≤4:=by rw[HN.out];exact hL4.1
  have HM:Hid (w5.heap.size<w6.heap.size∧w0.heap.size≤w5.heap.size∧cE w0 w6):=cD ⟨by omega,by have:=KD.size;omega,KD.trans ((dI.trans (b26.mono dI.size)).mono KD.size)⟩;clear Kw dI eO DI Kt jz dB KD xL hL4 hb4 hs4 uE MN AV X4 XO k6 s12 s23 s45 s01 hkl b26 b36 b46 hbase hp0 hrow hS;obtain⟨i0,wS,hz0,hz1,hz2⟩:=info_parts O1;go_wp2_with fail
  go_loopw [48] (fun kv wr=>∃k:Nat,k≤N∧kv=.i k∧Hid (∃v T,Ed w0 w6 w5.heap.size [.i sn,.slice ra L.length rc] [.p w2.heap.size,.p (w3.heap.size+1),.slice va nn vc,.n] L k v T wr)) (fun kv _=>N - (intOf kv).toNat)
  case atStart=>exact⟨0,by omega,rfl,cD ⟨_,_,Jl.out⟩⟩
  obtain⟨k,hk,rfl,HS⟩:=hrel;obtain⟨v,T,hst⟩:=HS.out;by_cases hlt:k<N
  ·obtain⟨p,hp⟩:∃p,L[k]?=some p:=⟨_,aE (by rw[←HN.out];exact hlt)⟩
   have zc:=aj9.out k p wr hp hst.kept;have HP:=cD (cC hp hst);have oL:cE w0 wr:=HM.out.2.2.trans (hst.kept.below HM.out.2.2.size (fun b e=>by have e:b=w5.heap.size:=e;have:=HM.out.2.1;omega));have akn:=cD (TR.new oL HH.out.2.1 (HH.out.2.2.2.2.1 p (aN hp)) (H1.out.2.2.2.2.2 p (aN hp)));clear hst hp oL HS;go_wp2_with fail
   refine akn.out.mono ?_;rintro e w7 ⟨b,rfl,hR,jt,nY⟩;have HR7:=cD (cC hR (cC jt nY));obtain⟨wa,vO⟩:∃a,a=w7.alloc (.cells #[.p b] 57):=⟨_,rfl⟩;have hba:cE w7 wa:=by rw[vO];exact cT (ah _ _) _
   have hst:=HP.out.2;have hka:cQ (·=w5.heap.size) wr wa:=dA (nY.trans (hba.mono nY.size));have hca:∀j u,([Gw b]:List aF)[j]?=some u→wa.cell? ((⟨w7.heap.size,0,none⟩:Addr).add j)=some u:=fun j u hu=>by
    rw[Addr.add_lit,aI,vO,aH _ _ j _ 57 (0,0) (aj w7 _)];simpa [Gw] using hu
   have hlw:=hst.kept.size;have Fg:=nY.size;have ai4:=hba.size;have b6a:cE wr wa:=nY.trans (hba.mono nY.size);obtain⟨v',w8,hq8,hown',hgrow,zu,hall⟩:=qT (P:=prog) (w:=wa) w6.heap.size 65 65 57 i0 (.pointer none) 1 8 underlying65 wS hz0 hz1 hz2 rfl cL v k (T.map Gw) (lE hst.own b6a) ⟨w7.heap.size,0,none⟩ 1 1 [Gw b] rfl hca (by intro u hu;simp at hu;subst hu;rfl) (by unfold maxLen;omega) cK cK (fun x=>I9 x=true) (hst.all.kept (dA (S:=fun _=>False) b6a) (fun _ _ e=>e)) (by intro u hu;simp at hu;subst hu;rfl) (by intro u hu;simp[Value.cells] at hu;subst hu;rfl) cL;obtain⟨qG,Wp⟩:=hst.next rfl HP.out.1 HQ.out HM.out.1 HM.out.2.1 jt hR nY hba hown' hgrow zu hall;obtain⟨g',cap',rfl⟩:=ownsRow_succ hown';have c2:w7.cell? ⟨w5.heap.size,2,none⟩=some v:=by
    have k7:=(nY.block _ (aq hst.blk)).trans hst.blk;exact aH _ _ 2 _ _ (0,0) k7
   have c28:w8.cell? ⟨w5.heap.size,2,none⟩=some v:=aH _ _ 2 _ _ (0,0) Wp;have f28:w8.frozen? ⟨w5.heap.size,2,none⟩=false:=by simp[aJ,Wp]
   have HWA:=cD vO;have HQ8:=cD hq8;have Cc:=cD qG;clear zc hR jt nY vO hba hst hka hca hlw Fg ai4 b6a hown' hgrow zu hall qG Wp hq8;go_wp2_with (first
    |(at_builtin;rw[←HWA.out];refine uS rfl (.tmp 61) (.tmp 63) 65 rfl v _ _ w8 rfl rfl HQ8.out ?_)
    |fail)
   go_roundw
   case rel=>exact⟨k+1,by omega,by go_num,cD ⟨_,_,Cc.out⟩⟩
   case measure=>simp[intOf];omega
  obtain rfl:k=N:=by omega
  have Jl:=cD hst;clear hst HS;go_wp2_with fail
  go_ret2
  obtain⟨A,hA1,hA2,hA4,hA5⟩:=VO HH.out.1 HH.out.2.1 HH.out.2.2.1 HBS.out (by have e:=Jl.out;rw[HN.out] at e;exact e) H1.out.2.2.2.2.1;refine⟨?_,.inr ⟨by rw[HX.out.1,←HK.out],A,by rw[hA1];rfl,by rw[Int.toNat_natCast,Int.toNat_natCast];exact hA2,hA4,hA5⟩⟩;exact HBS.out.bl.trans (Jl.out.kept.below HBS.out.bl.size (fun b e=>by have e:b=w5.heap.size:=e;have:=HBS.out.mbl.2;omega))
 go_enter func12,ntmps12
 go_wp2_with fail
 refine FW.out.mono ?_;rintro e w1 ⟨rfl,dB⟩;clear h1 h2 h3 h4;go_wp2_with fail
 go_ret2
 exact⟨dB,.inl ⟨by rw[HX.out.1,←HK.out];exact hc0,by rw[HX.out.1,←HK.out];rfl⟩⟩
section
variable{w0 w:World}{A:MA}{m:cV}{N:Nat}
theorem pY(h:cZ w0 w A m)(ok:m.Ok N):aM prog 14 #[.p A.mb] w (jb w m.v):=by
 have c5:=h.cells.2.2.2.2.2.1;have HC:=cD (lJ w A.va A.vc A.lo m.v (by have:=ok.vl;omega) h.data.v);obtain⟨n,hn⟩:=cF m.v.length;rw[←hn] at c5 HC;clear h ok hn;go_enter func14,ntmps14
 go_wp2_with fail
 refine HC.out.mono ?_;rintro e w2 ⟨v,rfl,h1⟩;have H1:=cD h1;clear h1;go_wp2
 go_ret
 exact⟨v,rfl,H1.out⟩
theorem Bk{α:Type}{f:α→List aF}{K:Nat}(hf:∀x,(f x).length=K):∀(l:List α) (k j:Nat) (x:α) (u:aF),l[k]?=some x→(f x)[j]?=some u→(l.flatMap f)[k*K+j]?=some u
 |[],k,j,p,u,h,_=>by simp at h
 |y::ys,0,j,p,u,h,hu=>by
  simp at h;subst h;rw[aP,Nat.zero_mul,aI,List.getElem?_append_left (by exact(aL.1 hu).1)];exact hu
 |y::ys,k+1,j,p,u,h,hu=>by
  have e:(k+1)*K=K+k*K:=by rw[Nat.add_mul,Nat.one_mul,Nat.add_comm]
  rw[aP,List.getElem?_append_right (by rw[hf,e];omega),hf,show(k+1)*K+j - K=k*K+j by rw[e];omega];exact Bk hf ys k j p u (by simpa using h) hu
def MA.Ql(A:MA)(m:cV):List (fW×ei):=m.own.zip (A.C.map (·.1))
theorem vJ{i:Nat}{x:fW×ei}(h:(A.Ql m)[i]?=some x):∃c,m.own[i]?=some x.1∧A.C[i]?=some c∧c.1=x.2∧(m.own.zip A.C)[i]?=some (x.1,c):=by
 unfold MA.Ql at h;obtain⟨y,r⟩:=x;rw[aK] at h;obtain⟨h1,h2⟩:=h;rw[aO] at h2;obtain⟨c,hc,e⟩:=Option.map_eq_some_iff.1 h2;exact⟨c,h1,hc,e,aK.2 ⟨h1,hc⟩⟩
theorem cZ.ac4(h:cZ w0 w A m){g cap:Nat}(DE:A.ov=.slice (some ⟨g,0,none⟩) m.own.length cap):Nl w BU (some ⟨g,0,none⟩) (A.Ql m) (A.C.map (·.2)):=fun k x hx=>by
 obtain⟨c,h1,h2,h3,h4⟩:=vJ hx;have hown:=h.own;rw[DE] at hown;refine⟨g,0,rfl,(hown.lt g rfl).2,fun j u hu=>?_,c.2,by rw[aO,h2];rfl,?_⟩
 ·rw[←h3] at hu
  have:=hown.cells (g:=g) rfl (k*7+j) u (Bk (f:=fun p:fW×(ei×List dr)=>cU p.1 p.2.1) (K:=7) (fun _=>rfl) _ k j _ u h4 hu);rw[Addr.add_lit,aI] at this;rw[aI];exact this
 ·rw[←h3]
  exact(h.data.eu k x.1 c h1 h2).cS
def MA.oA(A:MA)(m:cV)(hv:Nat):List (fW×ei):=(ij id hv (A.Ql m) (A.Ql m).length).take 8
theorem cZ.EX(h:cZ w0 w A m):(A.Ql m).length=m.own.length:=by
 unfold MA.Ql;rw[List.length_zip,List.length_map,h.cl,Nat.min_self]
theorem Ag(h:cZ w0 w A m)(ok:m.Ok N)(hN:N≤1000000)(hv:Nat):aM prog 15 #[.p A.mb,.v hv] w (wK w (A.oA m hv)):=by
 have c6:=h.cells.2.2.2.2.2.2;have HC:Hid (aM prog 47 #[A.ov,.v hv] w (wK w (A.oA m hv))):=cD (by
  rcases h.own.2 with ⟨e,h0⟩|⟨g,cap,cur,e,_⟩
  ·have h1:A.oA m hv=[]:=by
    have:=h.EX;unfold MA.oA ij;rw[List.eq_nil_of_length_eq_zero (this.trans h0)];rfl
   rw[e,h1];exact Ow w hv
  have hit:=h.ac4 e;have hl:=h.EX;have hown:=h.own;rw[e] at hown;have:=GN w g 0 cap hv (A.Ql m) (A.C.map (·.2)) BU hit (by rw[hl,ok.zl];exact ay (cV.vT ok.vN _) hN) (hown.lt g rfl).2 (fun x hx=>by
   obtain⟨k,hk⟩:=List.mem_iff_getElem?.1 hx;obtain⟨c,h1,_⟩:=vJ hk;have hs:=(ok.own k x.1 h1).2.2;exact⟨by have:=hs.de.1;omega,by have:=hs.dF.1;omega,fun e he=>by have:=(hs.dF.2 e he).node.data;omega⟩)
  rw[hl] at this;rw[e];unfold MA.oA;rw[hl];exact this)
 obtain⟨ov,DE⟩:∃v,v=A.ov:=⟨_,rfl⟩;rw[←DE] at c6 HC;clear h ok DE;go_enter func15,ntmps15
 go_wp2_with fail
 refine HC.out.mono ?_;rintro e w2 ⟨v,C,rfl,h1⟩;have H1:=cD h1;clear h1;go_wp2
 go_ret
 exact⟨v,C,rfl,H1.out⟩
theorem JG(h:cZ w0 w A m)(r:Nat)(hr:r<m.eC.length)(hl:m.eC.length≤1000):
  aM prog 19 #[.p A.mb,.i r] w fun e w'=>∃b,e=.returned (.p b)∧TR w0 w' b (m.cP r) (m.cS r) (m.dQ r)∧w.heap.size≤b∧cE w w':=by
 have c2:=h.cells.2.2.1;obtain⟨tb,htb⟩:∃tb,A.tb[r]?=some tb:=⟨_,aE (by rw[h.tl];exact hr)⟩;obtain⟨g,off,e1,_,e3,e4⟩:=h.data.row r tb htb;have HC:=cD (h.tr r tb htb).1.clone;rw[e1] at c2;have t1:decide ((r:Int)<0)=false:=by simp
 have t2:decide ((m.eC.length:Int)≤(r:Int))=false:=by simp;omega
 obtain⟨n,hn⟩:=cF m.eC.length;rw[←hn] at c2 t2 hr hl;clear h hn e1;go_enter func19,ntmps19
 go_wp2_with fail
 refine HC.out.mono ?_;rintro e w2 ⟨b,rfl,h1,h2,h3⟩;have H1:=cD (cC h1 (cC h2 h3));clear h1 h2 h3;go_wp2
 go_ret
 exact⟨b,rfl,H1.out.1,H1.out.2.1,H1.out.2.2⟩
end
end
