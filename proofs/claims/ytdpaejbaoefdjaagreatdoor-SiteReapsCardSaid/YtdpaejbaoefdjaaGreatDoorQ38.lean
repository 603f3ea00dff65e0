/- Part 38. -/
import Derived.Test.YtdpaejbaoefdjaaGreatDoorQ37
open Go.World renaming rangeAt_setCells_same → aa,frozen? → aI
open List renaming length_append → af,toList_toArray → au,size_toArray → aB,getElem?_zip_eq_some → aJ,getElem?_eq_some_iff → aK,getElem?_eq_getElem → aL,mem_of_getElem? → aN,getElem?_map → aO,flatMap_cons → aP
open Go renaming wpList_store_mid → ag,heap_alloc_new → aj,wpList_load_mid → an,lt_of_block → aq,bodyPost_ret → aD,Value → aE,cell_of_row → aG,Calls → aM
open Go.RowKit.Below renaming refl → ah
open Nat renaming le_trans → ay,lt_of_lt_of_le → aC,le_refl → aF,zero_add → aH
open Go.Value renaming oneCell' → aA
namespace Go.Proofs.YtdpaejbaoefdjaaGreatDoor
open Go.Proofs.Tryz
set_option maxRecDepth 100000
set_option maxHeartbeats 64000000
set_option linter.unusedVariables false
set_option linter.unusedSimpArgs false
section
open Go.RowKit Go.Shelf Go.MapKept Go.ChangeMaps
section
variable{w0 w:World}{A:MA}{m:cS}{N:Nat}
theorem sQ(h:cU w0 w A m)(ok:m.Ok N)(hN:N≤80000){ao:Option Addr}{c:Nat}{lo:Nat→Prop}{D:cP}(hD:dN w lo ao c D)(hl:D.length≤1000000000):
  aM prog 24 #[.p A.mb,.slice ao D.length c] w (fq w0 w A (if mE D then m.apply (ey D) else (m,nX 2))):=by
 obtain⟨Y,hY⟩:=cG ((if mE D then m.apply (ey D) else (m,nX 2)));rw[←hY];have HY:=cE hY;clear hY;obtain⟨w1,hw1⟩:=cG (w.alloc (.cells #[.B,.U,.U,.I,.U,.B,.z,.n,.I,.F,.F,.n,.I,.V,.I,.V,.n,.n,.U,.I,.I,.V,.n,.I,.z,.n,.U,.U,.U,.I,.U,.V,.V,.V,.n,.n,.I,.V,.I,.V,.n,.n,.U] 49));have de:cF w w1:=by rw[hw1];exact cR (ah _ w) _
 have hs1:w1.heap.size=w.heap.size+1:=by rw[hw1];simp
 have k1:w1.heap[w.heap.size]?=some (.cells #[.B,.U,.U,.I,.U,.B,.z,.n,.I,.F,.F,.n,.I,.V,.I,.V,.n,.n,.U,.I,.I,.V,.n,.I,.z,.n,.U,.U,.U,.I,.U,.V,.V,.V,.n,.n,.I,.V,.I,.V,.n,.n,.U] 49 (0,0)):=by rw[hw1];exact aj w _
 have HGE:=cE (Gk w1 ao c lo D (hD.below de) hl);obtain⟨dn,hdn⟩:∃n,n=D.length:=⟨_,rfl⟩;rw[←hdn] at HGE⊢;have me:=cE (cD hw1 (cD de (cD hs1 k1)));have HH:=cE (cD h (cD trivial (cD ok hN)));have ahf:Hid (cH 42 23):=cE cK;have xB:Hid (cH 49 43):=cE cK;clear hw1 de hs1 k1 h ok hN hD hl hdn;go_enter func24,ntmps24
 go_wp2_with (first
  |(rw[←me.out.1])
  |fail)
 refine HGE.out.mono ?_;rintro e w2 ⟨cs,x,rfl,dz,zl⟩;have hcl:cs.length=23:=by
  rcases zl with ⟨_,_,o,i,fa,fc,L,E,rfl,_⟩|⟨_,_,rfl⟩
  ·simp[fR.cells,gF]
  simp[ue,fR.cells,gF]
 have hone:(cs.toArray:Array aE).all (·.oneCell')=true:=by
  rcases zl with ⟨_,_,o,i,fa,fc,L,E,rfl,_⟩|⟨_,_,rfl⟩
  ·simp[fR.cells,gF,aA]
  simp[ue,fR.cells,gF,aA]
 obtain⟨wz,LH,hbz,hsz,TX⟩:=dO w2 [.B,.U,.U,.I,.U,.B,.z,.n,.I,.F,.F,.n,.I,.V,.I,.V,.n,.n,.U,.I,.I,.V,.n] 42;have hbk:wz.heap[w2.heap.size]?=some (.cells #[.B,.U,.U,.I,.U,.B,.z,.n,.I,.F,.F,.n,.I,.V,.I,.V,.n,.n,.U,.I,.I,.V,.n] 42 (0,0)):=by rw[LH];exact aj w2 _
 obtain⟨w3,kz⟩:=cG (wz.setCells w2.heap.size 0 cs);have k3:w3.heap[w2.heap.size]?=some (.cells cs.toArray 42 (0,0)):=by rw[kz];exact fG hbk hcl
 have eE:cF w2 w3:=by rw[kz];exact iy (w1:=w2) hbz 0 _ (aF _)
 have HT:Hid (wz.there w2.heap.size 0 cs.toArray.size):=cE (dR hbk 0 _ (by rw[aB,hcl];simp));have HSC:Hid (cH 42 cs.toArray.size):=cE (by rw[aB,hcl];exact ahf.out);have gu:=cE hone;have vz:=cE (cD LH (cD kz (cD k3 (cD eE dz))));have HC:=cE zl;have pZ:=cE hcl;clear LH hbz hsz TX hbk kz k3 eE dz zl hcl hone;by_cases hok:mE D=true
 ·obtain⟨kd,F8⟩:∃k,k=(ey D).kind:=⟨_,rfl⟩
  have hex:x=0∧(∃e1 e2 e3 e4 e5 e6 e7 e8 e9 sO qB vw vu vt vq vp vj vi vh ve u9 uZ,cs=[.b (kd:Int),e1,e2,e3,e4,e5,e6,e7,e8,e9,sO,qB,vw,vu,vt,vq,vp,vj,vi,vh,ve,u9,uZ])∧mC (ey D):=by
   rcases HC.out with ⟨_,h2,o,i,fa,fc,L,E,h3,_⟩|⟨h1,_⟩
   ·refine⟨h2,⟨.u ((ey D).oh:Int),.u ((ey D).req:Int),.i (ey D).os,.u ((ey D).on:Int),.b o.kind,.s o.path,.slice o.da o.dn o.dc,.i o.gS,.bool o.seq,.bool o.mM,.slice o.pa o.pn o.pc,.i (ey D).dY.ew,.v ((ey D).dY.seq:Int),.i (ey D).dY.dK,.v ((ey D).dY.ep:Int),.slice i.sa (ey D).dY.stamp.length i.sc,.slice i.ea (ey D).dY.dB.length i.ec,.u ((ey D).dY.cl:Int),.i (ey D).site,.i (ey D).dK,.v ((ey D).ep:Int),.slice fa (ey D).fr.length fc,?_⟩,ox (by have:=hok;unfold mE at this;simp only[Bool.and_eq_true] at this;exact this.1)⟩
    rw[h3,F8];rfl
   rw[hok] at h1;cases h1
  obtain⟨rfl,⟨e1,e2,e3,e4,e5,e6,e7,e8,e9,sO,qB,vw,vu,vt,vq,vp,vj,vi,vh,ve,u9,uZ,hcs⟩,hes⟩:=hex;have hY:Y=m.apply (ey D):=by rw[HY.out,if_pos hok]
  have wH:kd<256:=by rw[F8];exact hes.kind
  subst hcs;obtain⟨w5a,XT⟩:=cG (w3.alloc (.cells #[.B,.U,.U,.I,.U,.B,.z,.n,.I,.F,.F,.n,.I,.V,.I,.V,.n,.n,.U,.I,.I,.V,.n,.I,.z,.n,.U,.U,.U,.I,.U,.V,.V,.V,.n,.n,.I,.V,.I,.V,.n,.n,.U] 49));have k5a:w5a.heap[w3.heap.size]?=some (.cells #[.B,.U,.U,.I,.U,.B,.z,.n,.I,.F,.F,.n,.I,.V,.I,.V,.n,.n,.U,.I,.I,.V,.n,.I,.z,.n,.U,.U,.U,.I,.U,.V,.V,.V,.n,.n,.I,.V,.I,.V,.n,.n,.U] 49 (0,0)):=by rw[XT];exact aj w3 _
  have VE:Hid (w5a.there w3.heap.size 0 43):=cE (dR k5a 0 43 cN);obtain⟨w5,nM⟩:=cG (w5a.setCells w3.heap.size 0 [.b (kd:Int),e1,e2,e3,e4,e5,e6,e7,e8,e9,sO,qB,vw,vu,vt,vq,vp,vj,vi,vh,ve,u9,uZ,.I,.z,.n,.U,.U,.U,.I,.U,.V,.V,.V,.n,.n,.I,.V,.I,.V,.n,.n,.U]);have k5:w5.heap[w3.heap.size]?=some (.cells #[.b (kd:Int),e1,e2,e3,e4,e5,e6,e7,e8,e9,sO,qB,vw,vu,vt,vq,vp,vj,vi,vh,ve,u9,uZ,.I,.z,.n,.U,.U,.U,.I,.U,.V,.V,.V,.n,.n,.I,.V,.I,.V,.n,.n,.U] 49 (0,0)):=by rw[nM];exact fG k5a rfl
  have jE:cF w3 w5:=by rw[nM,XT];exact iy (w1:=w3) (cR (ah _ w3) _) 0 _ (aF _)
  have amc:Hid ((#[.b (kd:Int),e1,e2,e3,e4,e5,e6,e7,e8,e9,sO,qB,vw,vu,vt,vq,vp,vj,vi,vh,ve,u9,uZ,.I,.z,.n,.U,.U,.U,.I,.U,.V,.V,.V,.n,.n,.I,.V,.I,.V,.n,.n,.U]:Array aE).all (·.oneCell')=true):=cE (by simpa [aA] using gu.out);have H5:=cE (cD k5 jE);have alV:=cE XT;have OJ:Hid (w3.rangeAt w2.heap.size 0 [.b (kd:Int),e1,e2,e3,e4,e5,e6,e7,e8,e9,sO,qB,vw,vu,vt,vq,vp,vj,vi,vh,ve,u9,uZ]):=cE (dD vz.out.2.2.1);have Ag:Hid ((prog.info? 42).map (·.size)=some ([.b (kd:Int),e1,e2,e3,e4,e5,e6,e7,e8,e9,sO,qB,vw,vu,vt,vq,vp,vj,vi,vh,ve,u9,uZ]:List aE).length):=cE ahf.out;have YQ:=cE nM;have HYY:=cE (cD hY (cD hes (cD F8 (cD wH hok))));clear hY hes F8 wH hok nM XT k5a k5 jE;go_wp2_with (first
   |(rw[←vz.out.1];refine ag rfl 42 (.tmp 5) (.tmp 18) rfl w2.heap.size 0 #[.b (kd:Int),e1,e2,e3,e4,e5,e6,e7,e8,e9,sO,qB,vw,vu,vt,vq,vp,vj,vi,vh,ve,u9,uZ] rfl rfl HT.out HSC.out gu.out ?_;rw[au,←vz.out.2.1])
   |(refine an rfl 42 (.tmp 5) rfl w2.heap.size 0 rfl [.b (kd:Int),e1,e2,e3,e4,e5,e6,e7,e8,e9,sO,qB,vw,vu,vt,vq,vp,vj,vi,vh,ve,u9,uZ] _ OJ.out underlying42 rfl Ag.out ?_)
   |(rw[←alV.out];refine ag rfl 49 (.tmp 7) (.tmp 26) rfl w3.heap.size 0 #[.b (kd:Int),e1,e2,e3,e4,e5,e6,e7,e8,e9,sO,qB,vw,vu,vt,vq,vp,vj,vi,vh,ve,u9,uZ,.I,.z,.n,.U,.U,.U,.I,.U,.V,.V,.V,.n,.n,.I,.V,.I,.V,.n,.n,.U] rfl rfl VE.out xB.out amc.out ?_;rw[←YQ.out])
   |fail)
  have c5:∀w',cF w5 w'→w'.cell? ⟨w2.heap.size,0,none⟩=some (.b (kd:Int)):=fun w' hb=>by
   have k3:=vz.out.2.2.1;have k5:=(H5.out.2.block _ (aq k3)).trans k3;exact aG _ _ 0 _ 42 (0,0) ((hb.block _ (aq k5)).trans k5)
  have HK:=cE HYY.out.2.2.2.1;refine rB fun wd hS=>?_
  refine tI 1 rfl hS ?_;refine tJ 2 rfl hS c5 ?_;simp only[cQ];refine cI 0 rfl ?_;refine(Pe wd).mono ?_;rintro e w6 ⟨mt,rfl,hT,hmt,qb⟩;have uH:=hS.trans (qb.mono hS.size);refine⟨uH,?_⟩;simp only[cQ];obtain⟨fv,hfv,Ug⟩:=hT.look kd HK.out;refine O0 (S':=fun w'=>cF w6 w') (fun w' h=>uH.trans (h.mono uH.size)) _ _ _ _ ?_;have BU:cF w6 w6:=ah _ w6;have HS6:=cE uH;have HFV:=cE hfv;obtain⟨iss,abS⟩:∃b,b=(Mv kd).isSome:=⟨_,rfl⟩;rw[←abS] at Ug;have HIS:=cE abS;clear hT hmt qb hfv hS uH abS c5;refine tJ 3 rfl BU Ug ?_;refine tI 4 rfl BU ?_;refine tI 5 rfl BU ?_;refine tI 6 rfl BU ?_;simp only[cQ];refine tI 7 rfl BU ?_;refine tI 8 rfl BU ?_;simp only[cQ];refine wpAnyH_done cK ?_ _;clear Ug BU;cases iss with
  |false=>
   have k6:w6.heap[w3.heap.size]?=some (.cells #[.b (kd:Int),e1,e2,e3,e4,e5,e6,e7,e8,e9,sO,qB,vw,vu,vt,vq,vp,vj,vi,vh,ve,u9,uZ,.I,.z,.n,.U,.U,.U,.I,.U,.V,.V,.V,.n,.n,.I,.V,.I,.V,.n,.n,.U] 49 (0,0)):=(HS6.out.block _ (aq H5.out.1)).trans H5.out.1;have d23:w6.cell? ⟨w3.heap.size,23,none⟩=some (.I):=aG _ _ 23 _ 49 (0,0) k6;have f23:w6.frozen? ⟨w3.heap.size,23,none⟩=false:=by simp[aI,k6]
   obtain⟨w7,nY⟩:∃a,a=w6.setCell ⟨w3.heap.size,23,none⟩ (.i 1):=⟨_,rfl⟩;have k7:w7.heap[w3.heap.size]?=some (.cells #[.b (kd:Int),e1,e2,e3,e4,e5,e6,e7,e8,e9,sO,qB,vw,vu,vt,vq,vp,vj,vi,vh,ve,u9,uZ,.i 1,.z,.n,.U,.U,.U,.I,.U,.V,.V,.V,.n,.n,.I,.V,.I,.V,.n,.n,.U] 49 (0,0)):=by rw[nY,heap_setCell_same w6 w3.heap.size 23 _ 49 _ k6];rfl
   have hlt3:w.heap.size+1≤w3.heap.size:=by
    have h1:=me.out.2.2.1;have h2:=vz.out.2.2.2.2.size;have h3:=vz.out.2.2.2.1.size;omega
   have mL:cF w w7:=by
    obtain⟨_,de,hs1,k1⟩:=me.out;obtain⟨_,_,_,eE,dz⟩:=vz.out;have e1:cF w w3:=(de.trans (dz.mono de.size)).trans (eE.mono (ay de.size dz.size));have e2:cF w w6:=(e1.trans (H5.out.2.mono e1.size)).trans (HS6.out.mono (ay e1.size H5.out.2.size));rw[nY];exact e2.trans (((Kept.refl (·=w3.heap.size) w6).setCell (p:=⟨w3.heap.size,23,none⟩) rfl _).below e2.size (fun b e=>by have e:b=w3.heap.size:=e;omega))
   have hkr:w7.heap[w.heap.size]?=some (.cells #[.B,.U,.U,.I,.U,.B,.z,.n,.I,.F,.F,.n,.I,.V,.I,.V,.n,.n,.U,.I,.I,.V,.n,.I,.z,.n,.U,.U,.U,.I,.U,.V,.V,.V,.n,.n,.I,.V,.I,.V,.n,.n,.U] 49 (0,0)):=by
    obtain⟨_,de,hs1,k1⟩:=me.out;obtain⟨_,_,_,eE,dz⟩:=vz.out;have e3:=(eE.block _ (by have:=dz.size;omega)).trans ((dz.block _ cL).trans k1);have e5:=(H5.out.2.block _ (aq e3)).trans e3;have e6:=(HS6.out.block _ (aq e5)).trans e5;rw[nY];exact((Kept.refl (·=w3.heap.size) w6).setCell (p:=⟨w3.heap.size,23,none⟩) rfl _).same e6 (fun e=>by have e:w.heap.size=w3.heap.size:=e;omega)
   have zQ:Hid (w7.there w.heap.size 0 43):=cE (dR hkr 0 43 cN);have HR7:Hid (w7.rangeAt w3.heap.size 0 [.b (kd:Int),e1,e2,e3,e4,e5,e6,e7,e8,e9,sO,qB,vw,vu,vt,vq,vp,vj,vi,vh,ve,u9,uZ,.i 1,.z,.n,.U,.U,.U,.I,.U,.V,.V,.V,.n,.n,.I,.V,.I,.V,.n,.n,.U]):=cE (dD k7);have al9:Hid ((#[.b (kd:Int),e1,e2,e3,e4,e5,e6,e7,e8,e9,sO,qB,vw,vu,vt,vq,vp,vj,vi,vh,ve,u9,uZ,.i 1,.z,.n,.U,.U,.U,.I,.U,.V,.V,.V,.n,.n,.I,.V,.I,.V,.n,.n,.U]:Array aE).all (·.oneCell')=true):=cE (by simpa [aA] using gu.out);obtain⟨w8,uX⟩:∃a,a=w7.setCells w.heap.size 0 [.b (kd:Int),e1,e2,e3,e4,e5,e6,e7,e8,e9,sO,qB,vw,vu,vt,vq,vp,vj,vi,vh,ve,u9,uZ,.i 1,.z,.n,.U,.U,.U,.I,.U,.V,.V,.V,.n,.n,.I,.V,.I,.V,.n,.n,.U]:=⟨_,rfl⟩;have CI:cF w w8:=by rw[uX];exact iy (w1:=w) mL 0 _ (aF _)
   have Fi:=cE (cD nY (cD uX CI));have qP:Hid ((prog.info? 49).map (·.size)=some ([.b (kd:Int),e1,e2,e3,e4,e5,e6,e7,e8,e9,sO,qB,vw,vu,vt,vq,vp,vj,vi,vh,ve,u9,uZ,.i 1,.z,.n,.U,.U,.U,.I,.U,.V,.V,.V,.n,.n,.I,.V,.I,.V,.n,.n,.U]:List aE).length):=cE xB.out;clear nY uX CI hkr mL k7 k6 hlt3;go_wp2_with (first
    |(rw[←Fi.out.1];refine an rfl 49 (.tmp 7) rfl w3.heap.size 0 rfl [.b (kd:Int),e1,e2,e3,e4,e5,e6,e7,e8,e9,sO,qB,vw,vu,vt,vq,vp,vj,vi,vh,ve,u9,uZ,.i 1,.z,.n,.U,.U,.U,.I,.U,.V,.V,.V,.n,.n,.I,.V,.I,.V,.n,.n,.U] _ HR7.out underlying49 rfl qP.out ?_)
    |(refine an rfl 49 (.tmp 7) rfl w3.heap.size 0 rfl [.b (kd:Int),e1,e2,e3,e4,e5,e6,e7,e8,e9,sO,qB,vw,vu,vt,vq,vp,vj,vi,vh,ve,u9,uZ,.i 1,.z,.n,.U,.U,.U,.I,.U,.V,.V,.V,.n,.n,.I,.V,.I,.V,.n,.n,.U] _ HR7.out underlying49 rfl qP.out ?_)
    |(refine ag rfl 49 (.tmp 4) (.tmp 38) rfl w.heap.size 0 #[.b (kd:Int),e1,e2,e3,e4,e5,e6,e7,e8,e9,sO,qB,vw,vu,vt,vq,vp,vj,vi,vh,ve,u9,uZ,.i 1,.z,.n,.U,.U,.U,.I,.U,.V,.V,.V,.n,.n,.I,.V,.I,.V,.n,.n,.U] rfl rfl zQ.out xB.out al9.out ?_;rw[←Fi.out.2.1])
    |fail)
   refine aD (di rfl _ _ w.heap.size 0 [.b (kd:Int),e1,e2,e3,e4,e5,e6,e7,e8,e9,sO,qB,vw,vu,vt,vq,vp,vj,vi,vh,ve,u9,uZ,.i 1,.z,.n,.U,.U,.U,.I,.U,.V,.V,.V,.n,.n,.I,.V,.I,.V,.n,.n,.U] _ rfl (by rw[Fi.out.2.1];exact aa _ _ _ _ zQ.out) underlying49 rfl qP.out) rfl ?_;have hn:Mv (ey D).kind=none:=by
    rw[←HYY.out.2.2.1];have:=HIS.out;cases hd:Mv kd with
    |none=>rfl
    |some f=>rw[hd] at this;cases this
   rw[HYY.out.1,MP hn];exact⟨[.b (kd:Int),e1,e2,e3,e4,e5,e6,e7,e8,e9,sO,qB,vw,vu,vt,vq,vp,vj,vi,vh,ve,u9,uZ],[.i 1,.z,.n,.U,.U,.U,.I,.U,.V,.V,.V,.n,.n],qQ,[],rfl,rfl,gu.out,rfl,jP _ _ 1,o5 _ _,⟨A.va,A.vc,A.ov,A.C,HH.out.1.below Fi.out.2.2,fun b e=>.inl e⟩,dm Fi.out.2.2⟩
  |true=>
  obtain⟨f,hf⟩:∃f,Mv kd=some f:=by
   have:=HIS.out;cases hd:Mv kd with
   |none=>rw[hd] at this;cases this
   |some f=>exact⟨f,rfl⟩
  have hfe:fv=.func (.func f) #[] #[]:=by rw[HFV.out,hf];rfl
  clear HFV;subst hfe;have BO:=Mu hf;have k6:w6.heap[w3.heap.size]?=some (.cells #[.b (kd:Int),e1,e2,e3,e4,e5,e6,e7,e8,e9,sO,qB,vw,vu,vt,vq,vp,vj,vi,vh,ve,u9,uZ,.I,.z,.n,.U,.U,.U,.I,.U,.V,.V,.V,.n,.n,.I,.V,.I,.V,.n,.n,.U] 49 (0,0)):=(HS6.out.block _ (aq H5.out.1)).trans H5.out.1;have uG:cF w w2:=me.out.2.1.trans (vz.out.2.2.2.2.mono me.out.2.1.size);have Ge:cF w2 w6:=(vz.out.2.2.2.1.trans (H5.out.2.mono vz.out.2.2.2.1.size)).trans (HS6.out.mono (ay vz.out.2.2.2.1.size H5.out.2.size));have HDO:Hid (aM prog f #[.p A.mb,.p w3.heap.size] w6 (iq (w.heap.size+1) w0 w6 (A.app w.heap.size w3.heap.size) w3.heap.size [.b (kd:Int),e1,e2,e3,e4,e5,e6,e7,e8,e9,sO,qB,vw,vu,vt,vq,vp,vj,vi,vh,ve,u9,uZ] Y)):=cE (by
   rcases HC.out with ⟨_,_,o,i,fa,fc,L,E,hcs,hE⟩|⟨h1,_⟩
   ·have Ab:=HH.out.1.newF me.out.2.1 (D:=w.heap.size) (aF _) (by have:=me.out.2.2.1;omega)
    rw[HYY.out.1,←me.out.2.2.1];exact YD (Rh Ab HH.out.2.2.1 (by have:=HH.out.2.2.2;omega) HYY.out.2.1 vz.out.2.2.2.2 Ge vz.out.2.2.2.1.size hcs hE k6) HH.out.2.2.2 (by rw[←HYY.out.2.2.1];exact hf)
   rw[HYY.out.2.2.2.2] at h1;cases h1)
  have hlt3:w.heap.size+1≤w3.heap.size:=by
   have h1:=me.out.2.2.1;have h2:=vz.out.2.2.2.2.size;have h3:=vz.out.2.2.2.1.size;omega
  have Zz:w6.heap[w.heap.size]?=some (.cells #[.B,.U,.U,.I,.U,.B,.z,.n,.I,.F,.F,.n,.I,.V,.I,.V,.n,.n,.U,.I,.I,.V,.n,.I,.z,.n,.U,.U,.U,.I,.U,.V,.V,.V,.n,.n,.I,.V,.I,.V,.n,.n,.U] 49 (0,0)):=by
   obtain⟨_,de,hs1,k1⟩:=me.out;obtain⟨_,_,_,eE,dz⟩:=vz.out;have e3:=(eE.block _ (by have:=dz.size;omega)).trans ((dz.block _ cL).trans k1);have e5:=(H5.out.2.block _ (aq e3)).trans e3;exact(HS6.out.block _ (aq e5)).trans e5
  have HB:=cE (cD (uG.trans (Ge.mono uG.size)) (cD hlt3 Zz));clear k6 uG Ge hf hlt3 Zz;go_wp2_with fail
  refine HDO.out.mono ?_;rintro e w7 ⟨⟨cc,e0,R,r,Lr,rfl,hDB,hRA,hI,Wb⟩,hst,hk⟩;have Yk:=DO hRA;have R8:w7.cell? ⟨w3.heap.size,23,none⟩=some (.i e0):=(hDB.rR 0 cM).trans Yk;have f23:w7.frozen? ⟨w3.heap.size,23,none⟩=false:=by simp[aI,hDB.blk]
  have hres:w7.heap[w.heap.size]?=some (.cells #[.B,.U,.U,.I,.U,.B,.z,.n,.I,.F,.F,.n,.I,.V,.I,.V,.n,.n,.U,.I,.I,.V,.n,.I,.z,.n,.U,.U,.U,.I,.U,.V,.V,.V,.n,.n,.I,.V,.I,.V,.n,.n,.U] 49 (0,0)):=hk.same HB.out.2.2 (fun e=>by
   have hl:=HB.out.2.1;rcases e with e|e
   ·have e:A.Z w.heap.size:=e
    have:=HH.out.1.Dx e;omega
   omega)
  have HE:=cE (cD hDB (cD hRA (cD hI (cD Wb (cD hst (cD hk hres))))));clear hDB hRA hI Wb hst hk Yk BO hres;by_cases h1:cc=0
  ·subst h1
   have Zq:Y.2.e=e0:=by
    have:=HE.out.2.2.2.1.1
    rwa [if_neg (fun h=>h.1 rfl)] at this
   have OH:Hid (DB w7 w3.heap.size [.b (kd:Int),e1,e2,e3,e4,e5,e6,e7,e8,e9,sO,qB,vw,vu,vt,vq,vp,vj,vi,vh,ve,u9,uZ] R (cT Y.2.i r)):=cE (HE.out.1);obtain⟨Z,hZ⟩:∃Z,Z=[.b (kd:Int),e1,e2,e3,e4,e5,e6,e7,e8,e9,sO,qB,vw,vu,vt,vq,vp,vj,vi,vh,ve,u9,uZ]++R++cT Y.2.i r:=⟨_,rfl⟩;have BT:Z.length=43:=by rw[hZ,af,af,OH.out.le,OH.out.lr,OH.out.li]
   have HZR:Hid (w7.rangeAt w3.heap.size 0 Z):=cE (by rw[hZ];exact dD OH.out.blk);have VA:Hid (cH 49 Z.length):=cE (by rw[BT];exact xB.out);have HZA:Hid (cH 49 Z.toArray.size):=cE (by rw[aB,BT];exact xB.out);have HZT:Hid (w7.there w.heap.size 0 Z.toArray.size):=cE (by rw[show Z.toArray.size=43 by simpa using BT];exact dR HE.out.2.2.2.2.2.2 0 43 cN);have MV:Hid (w7.there w.heap.size 0 Z.length):=cE (by rw[BT];exact dR HE.out.2.2.2.2.2.2 0 43 cN);have HZO:Hid ((Z.toArray:Array aE).all (·.oneCell')=true):=cE (by rw[hZ];exact wV gu.out (ry HE.out.2.1));have HFI:Hid (fq w0 w A Y (.returned (.agg Z.toArray)) (w7.setCells w.heap.size 0 Z)):=cE (by
    have:=yI (Y:=Y) HH.out.1 gu.out HB.out.1 HB.out.2.1 HE.out.2.2.2.2.2.1 HE.out.2.2.2.2.2.2 HE.out.2.2.2.2.1 HE.out.1 (by rw[Zq];exact HE.out.2.1) HE.out.2.2.1
    rwa [←hZ] at this)
   clear hZ BT Zq R8 f23;go_wp2_with (first
    |(refine an rfl 49 (.tmp 7) rfl w3.heap.size 0 rfl Z _ HZR.out underlying49 rfl VA.out ?_)
    |(refine ag rfl 49 (.tmp 4) (.tmp 53) rfl w.heap.size 0 Z.toArray rfl rfl HZT.out HZA.out HZO.out ?_;rw[au])
    |fail)
   refine aD (di rfl _ _ w.heap.size 0 Z _ rfl (aa _ _ _ _ MV.out) underlying49 rfl VA.out) rfl ?_;exact HFI.out
  by_cases h2:e0=0
  ·subst h2
   have t43:(cc != 0)=true:=by simpa using h1
   have HC0:=cE h1;have hz:=HE.out.2.2.2.1.2 h1;have Zq:Y.2.e=cc:=by
    have:=HE.out.2.2.2.1.1
    rwa [if_pos ⟨h1,rfl⟩] at this
   have hDz:DB w7 w3.heap.size [.b (kd:Int),e1,e2,e3,e4,e5,e6,e7,e8,e9,sO,qB,vw,vu,vt,vq,vp,vj,vi,vh,ve,u9,uZ] zR zI:=by
    have:=HE.out.1
    rwa [hz.1,hz.2.1,hz.2.2.2.1,Nb] at this
   obtain⟨w8,uX⟩:∃a,a=w7.setCell ⟨w3.heap.size,23,none⟩ (.i cc):=⟨_,rfl⟩;obtain⟨QI,yt,hD8⟩:=Rz (cc:=cc) HB.out.2.1 HE.out.2.2.2.2.2.1 HE.out.2.2.2.2.1 hDz;rw[←uX] at QI yt hD8;have N4:w8.heap[w.heap.size]?=some (.cells #[.B,.U,.U,.I,.U,.B,.z,.n,.I,.F,.F,.n,.I,.V,.I,.V,.n,.n,.U,.I,.I,.V,.n,.I,.z,.n,.U,.U,.U,.I,.U,.V,.V,.V,.n,.n,.I,.V,.I,.V,.n,.n,.U] 49 (0,0)):=by
    rw[uX];exact((Kept.refl (·=w3.heap.size) w7).setCell (p:=⟨w3.heap.size,23,none⟩) rfl _).same HE.out.2.2.2.2.2.2 (fun e=>by have e:w.heap.size=w3.heap.size:=e;have:=HB.out.2.1;omega)
   have OH:Hid (DB w8 w3.heap.size [.b (kd:Int),e1,e2,e3,e4,e5,e6,e7,e8,e9,sO,qB,vw,vu,vt,vq,vp,vj,vi,vh,ve,u9,uZ] (zR.set 0 (.i cc)) zI):=cE hD8;obtain⟨Z,hZ⟩:∃Z,Z=[.b (kd:Int),e1,e2,e3,e4,e5,e6,e7,e8,e9,sO,qB,vw,vu,vt,vq,vp,vj,vi,vh,ve,u9,uZ]++zR.set 0 (.i cc)++zI:=⟨_,rfl⟩;have BT:Z.length=43:=by rw[hZ,af,af,OH.out.le,OH.out.lr,OH.out.li]
   have HZR:Hid (w8.rangeAt w3.heap.size 0 Z):=cE (by rw[hZ];exact dD OH.out.blk);have VA:Hid (cH 49 Z.length):=cE (by rw[BT];exact xB.out);have HZA:Hid (cH 49 Z.toArray.size):=cE (by rw[aB,BT];exact xB.out);have HZT:Hid (w8.there w.heap.size 0 Z.toArray.size):=cE (by rw[show Z.toArray.size=43 by simpa using BT];exact dR N4 0 43 cN);have MV:Hid (w8.there w.heap.size 0 Z.length):=cE (by rw[BT];exact dR N4 0 43 cN);have hrb:fA w8 (fQ (w.heap.size+1)) (.agg (zR.set 0 (.i cc)).toArray) cc l5 []:=jP _ _ cc;have HZO:Hid ((Z.toArray:Array aE).all (·.oneCell')=true):=cE (by rw[hZ];exact wV (x:=ko) (r:=qQ) gu.out (ry hrb));have HFI:Hid (fq w0 w A Y (.returned (.agg Z.toArray)) (w8.setCells w.heap.size 0 Z)):=cE (by
    have:=yI (Y:=Y) (R:=zR.set 0 (.i cc)) (r:=qQ) (L:=[]) HH.out.1 gu.out HB.out.1 HB.out.2.1 QI N4 yt (by rw[hz.2.2.2.1,Nb];exact hD8) (by rw[Zq,hz.2.2.2.2.1,hz.2.2.2.2.2];exact hrb) (by rw[hz.2.2.2.1];exact o5 _ _)
    rwa [hz.2.2.2.1,Nb,←hZ] at this)
   have Fi:=cE uX;clear hZ BT hz Zq hDz QI yt hD8 N4 hrb uX h1;go_wp2_with (first
    |(rw[←Fi.out];refine an rfl 49 (.tmp 7) rfl w3.heap.size 0 rfl Z _ HZR.out underlying49 rfl VA.out ?_)
    |(refine an rfl 49 (.tmp 7) rfl w3.heap.size 0 rfl Z _ HZR.out underlying49 rfl VA.out ?_)
    |(refine ag rfl 49 (.tmp 4) (.tmp 53) rfl w.heap.size 0 Z.toArray rfl rfl HZT.out HZA.out HZO.out ?_;rw[au])
    |fail)
   refine aD (di rfl _ _ w.heap.size 0 Z _ rfl (aa _ _ _ _ MV.out) underlying49 rfl VA.out) rfl ?_;exact HFI.out
  have t43:(cc != 0)=true:=by simpa using h1
  have t48:(e0==0)=false:=by simpa using h2
  have Zq:Y.2.e=e0:=by
   have:=HE.out.2.2.2.1.1
   rwa [if_neg (fun h=>h2 h.2)] at this
  have OH:Hid (DB w7 w3.heap.size [.b (kd:Int),e1,e2,e3,e4,e5,e6,e7,e8,e9,sO,qB,vw,vu,vt,vq,vp,vj,vi,vh,ve,u9,uZ] R (cT Y.2.i r)):=cE (HE.out.1);obtain⟨Z,hZ⟩:∃Z,Z=[.b (kd:Int),e1,e2,e3,e4,e5,e6,e7,e8,e9,sO,qB,vw,vu,vt,vq,vp,vj,vi,vh,ve,u9,uZ]++R++cT Y.2.i r:=⟨_,rfl⟩;have BT:Z.length=43:=by rw[hZ,af,af,OH.out.le,OH.out.lr,OH.out.li]
  have HZR:Hid (w7.rangeAt w3.heap.size 0 Z):=cE (by rw[hZ];exact dD OH.out.blk);have VA:Hid (cH 49 Z.length):=cE (by rw[BT];exact xB.out);have HZA:Hid (cH 49 Z.toArray.size):=cE (by rw[aB,BT];exact xB.out);have HZT:Hid (w7.there w.heap.size 0 Z.toArray.size):=cE (by rw[show Z.toArray.size=43 by simpa using BT];exact dR HE.out.2.2.2.2.2.2 0 43 cN);have MV:Hid (w7.there w.heap.size 0 Z.length):=cE (by rw[BT];exact dR HE.out.2.2.2.2.2.2 0 43 cN);have HZO:Hid ((Z.toArray:Array aE).all (·.oneCell')=true):=cE (by rw[hZ];exact wV gu.out (ry HE.out.2.1));have HFI:Hid (fq w0 w A Y (.returned (.agg Z.toArray)) (w7.setCells w.heap.size 0 Z)):=cE (by
   have:=yI (Y:=Y) HH.out.1 gu.out HB.out.1 HB.out.2.1 HE.out.2.2.2.2.2.1 HE.out.2.2.2.2.2.2 HE.out.2.2.2.2.1 HE.out.1 (by rw[Zq];exact HE.out.2.1) HE.out.2.2.1
   rwa [←hZ] at this)
  clear hZ BT Zq f23 h1 h2;go_wp2_with (first
   |(refine an rfl 49 (.tmp 7) rfl w3.heap.size 0 rfl Z _ HZR.out underlying49 rfl VA.out ?_)
   |(refine ag rfl 49 (.tmp 4) (.tmp 53) rfl w.heap.size 0 Z.toArray rfl rfl HZT.out HZA.out HZO.out ?_;rw[au])
   |fail)
  refine aD (di rfl _ _ w.heap.size 0 Z _ rfl (aa _ _ _ _ MV.out) underlying49 rfl VA.out) rfl ?_;exact HFI.out
 have hx:x=2:=by rcases HC.out with ⟨h1,_⟩|⟨_,h2,_⟩;exact absurd h1 hok;exact h2
 subst hx;have hY:Y=(m,nX 2):=by rw[HY.out,if_neg hok]
 have HY2:=cE hY;clear hY;obtain⟨w4,lP⟩:=cG (w3.setCells w.heap.size 0 [.B,.U,.U,.I,.U,.B,.z,.n,.I,.F,.F,.n,.I,.V,.I,.V,.n,.n,.U,.I,.I,.V,.n,.i 2,.z,.n,.U,.U,.U,.I,.U,.V,.V,.V,.n,.n,.I,.V,.I,.V,.n,.n,.U]);have hk1:w3.heap[w.heap.size]?=some (.cells #[.B,.U,.U,.I,.U,.B,.z,.n,.I,.F,.F,.n,.I,.V,.I,.V,.n,.n,.U,.I,.I,.V,.n,.I,.z,.n,.U,.U,.U,.I,.U,.V,.V,.V,.n,.n,.I,.V,.I,.V,.n,.n,.U] 49 (0,0)):=by
  obtain⟨_,de,hs1,k1⟩:=me.out;obtain⟨_,_,_,eE,dz⟩:=vz.out;exact(eE.block _ (by have:=dz.size;omega)).trans ((dz.block _ cL).trans k1)
 have zQ:Hid (w3.there w.heap.size 0 43):=cE (dR hk1 0 43 cN);have ama:Hid ((#[.B,.U,.U,.I,.U,.B,.z,.n,.I,.F,.F,.n,.I,.V,.I,.V,.n,.n,.U,.I,.I,.V,.n,.i 2,.z,.n,.U,.U,.U,.I,.U,.V,.V,.V,.n,.n,.I,.V,.I,.V,.n,.n,.U]:Array aE).all (·.oneCell')=true):=cE (by simp[aA]);have Kc:=cE lP;have OL:=cE hok;clear lP hk1 hok;go_wp2_with (first
  |(rw[←vz.out.1];refine ag rfl 42 (.tmp 5) (.tmp 18) rfl w2.heap.size 0 cs.toArray rfl rfl HT.out HSC.out gu.out ?_;rw[au,←vz.out.2.1])
  |(refine ag rfl 49 (.tmp 4) (.tmp 24) rfl w.heap.size 0 #[.B,.U,.U,.I,.U,.B,.z,.n,.I,.F,.F,.n,.I,.V,.I,.V,.n,.n,.U,.I,.I,.V,.n,.i 2,.z,.n,.U,.U,.U,.I,.U,.V,.V,.V,.n,.n,.I,.V,.I,.V,.n,.n,.U] rfl rfl zQ.out xB.out ama.out ?_;rw[←Kc.out])
  |fail)
 refine aD (di rfl _ _ w.heap.size 0 [.B,.U,.U,.I,.U,.B,.z,.n,.I,.F,.F,.n,.I,.V,.I,.V,.n,.n,.U,.I,.I,.V,.n,.i 2,.z,.n,.U,.U,.U,.I,.U,.V,.V,.V,.n,.n,.I,.V,.I,.V,.n,.n,.U] _ rfl (by rw[Kc.out];exact aa _ _ _ _ zQ.out) underlying49 rfl xB.out) rfl ?_;have De:cF w w4:=by
  obtain⟨_,de,hs1,k1⟩:=me.out;obtain⟨_,_,_,eE,dz⟩:=vz.out;have e1:cF w w3:=(de.trans (dz.mono de.size)).trans (eE.mono (ay de.size dz.size));rw[Kc.out];exact iy (w1:=w) e1 0 _ (aF _)
 rw[HY2.out];exact⟨[.B,.U,.U,.I,.U,.B,.z,.n,.I,.F,.F,.n,.I,.V,.I,.V,.n,.n,.U,.I,.I,.V,.n],[.i 2,.z,.n,.U,.U,.U,.I,.U,.V,.V,.V,.n,.n],qQ,[],rfl,rfl,by simp[aA],rfl,jP _ _ 2,o5 _ _,⟨A.va,A.vc,A.ov,A.C,HH.out.1.below De,fun b e=>.inl e⟩,dm De⟩
end
theorem Q3:mE []=false:=by decide+kernel
theorem cS.Yz(m:cS)(X:iS):(if mE (vR X) then m.apply (ey (vR X)) else (m,nX 2))=m.done X:=by
 unfold cS.done;by_cases h:FD X=0
 ·rw[if_pos h,if_pos (FB h).2.1]
 have e:vR X=[]:=by unfold vR;rw[if_neg h]
 rw[if_neg h,e,Q3];rfl
def MA.one(A:MA)(n:Nat):MA:={A with X:=fun b=>A.X b∨b=n,F:=fun b=>A.F b∨b=n}
theorem U4{w0 w w3 w4:World}{A:MA}{m:cS}(h:cU w0 w A m){Y:cS×jt}{E R:List aE}{r:dS}{L:List cZ}{n:Nat}{cs:Array aE}(eE:cF w w3)(hn:w.heap.size≤n)(hn3:n<w3.heap.size)(hk:Kept A.Z w3 w4)
  (hres:w4.heap[n]?=some (.cells cs 49 (0,0))) (hst:∃va vc ov C,cU w0 w4 ((A.one n).PL va vc ov C) Y.1∧∀b,ov.ownBlock=some b→A.ov.ownBlock=some b∨w3.heap.size≤b) (hE:E.length=23) (hone:(E.toArray:Array aE).all (·.oneCell')=true) (hl:R.length=13) (hR:fA w4 (fQ w3.heap.size) (.agg R.toArray) Y.2.e Y.2.a Y.2.r) (hI:eu w4 (fun b=>w3.heap.size≤b∧yL w4 A.mb b) r L Y.2.i):
  fq w0 w A Y (.returned (.agg (E++R++cT Y.2.i r).toArray)) (w4.setCells n 0 (E++R++cT Y.2.i r)):=by
 have QI:=ic w4 n 0 (E++R++cT Y.2.i r);have h3:=eE.size;obtain⟨va,vc,ov,C,hm,EE⟩:=hst;have X4:=(hm.Jg QI (fun b e=>by
   have e:b=n:=e;subst e;exact⟨.inr rfl,.inr rfl,gQ hres⟩)).Y9 (X:=A.X) (F:=A.F) (fun b e=>.inl e) (fun b e=>.inl e)
 refine⟨E,R,r,L,rfl,hE,hone,hl,(hR.dP QI (fun k hk _ e=>?_)).mono (fun k hk=>ay h3 hk),(hI.kept QI (fun k hk e=>?_)).mono (fun k hk=>⟨ay h3 hk.1,X4.Bt (hk.2 _ hm.cells.2.2.2.2.2.2)⟩),?_,?_⟩
 ·have e:k=n:=e
  have hk:w3.heap.size≤k:=hk;omega
 ·have e:k=n:=e
  have hk:w3.heap.size≤k:=hk.1;omega
 ·exact⟨va,vc,ov,C,X4,fun b e=>(EE b e).imp id (fun e2=>ay h3 e2)⟩
 have k1:Kept (fun b=>A.Z b∨b=n) w (w4.setCells n 0 (E++R++cT Y.2.i r)):=((dm eE).trans (hk.mono (fun b _ e=>.inl e))).trans (QI.mono (fun b _ e=>.inr e));exact⟨k1.os,k1.tape,k1.output,k1.size,fun b hlt hnb=>k1.block b hlt (fun e=>by
  rcases e with e|e
  ·exact hnb e
  omega)⟩
section
variable{w0 w:World}{A:MA}{m:cS}{N:Nat}
theorem U5(h:cU w0 w A m)(ok:m.Ok N)(hN:N≤80000){X:iS}{o:cV}{i:dS}{L:List cZ}{fa:Option Addr}{fc:Nat}(hX:nV w X o i L fa)(hM:jz w o X.od):
  aM prog 13 #[.p A.mb,.agg (X.cells o i fa fc).toArray] w (fq w0 w A (m.done X)):=by
 obtain⟨CS,kI⟩:∃l,l=X.cells o i fa fc:=⟨_,rfl⟩;have Ad:CS.length=23:=by rw[kI];rfl
 obtain⟨w1,hw1⟩:∃a,a=w.alloc (.cells CS.toArray 42):=⟨_,rfl⟩;have de:cF w w1:=by rw[hw1];exact cR (ah _ w) _
 have hs1:w1.heap.size=w.heap.size+1:=by rw[hw1];simp
 obtain⟨w2,eS⟩:∃a,a=w1.alloc (.cells #[.B,.U,.U,.I,.U,.B,.z,.n,.I,.F,.F,.n,.I,.V,.I,.V,.n,.n,.U,.I,.I,.V,.n,.I,.z,.n,.U,.U,.U,.I,.U,.V,.V,.V,.n,.n,.I,.V,.I,.V,.n,.n,.U] 49):=⟨_,rfl⟩;have dz:cF w1 w2:=by rw[eS];exact cR (ah _ w1) _
 have hs2:w2.heap.size=w1.heap.size+1:=by rw[eS];simp
 have k2:w2.heap[w1.heap.size]?=some (.cells #[.B,.U,.U,.I,.U,.B,.z,.n,.I,.F,.F,.n,.I,.V,.I,.V,.n,.n,.U,.I,.I,.V,.n,.I,.z,.n,.U,.U,.U,.I,.U,.V,.V,.V,.n,.n,.I,.V,.I,.V,.n,.n,.U] 49 (0,0)):=by rw[eS];exact aj w1 _
 have k1:w2.heap[w.heap.size]?=some (.cells CS.toArray 42 (0,0)):=(dz.block _ cL).trans (by rw[hw1];exact aj w _);have HRC:Hid (w2.rangeAt w.heap.size 0 CS):=cE (dD k1);have HPE:=cE (Py w2 X o i L fa fc (hX.below (de.trans (dz.mono de.size))) (hM.below (de.trans (dz.mono de.size))));rw[←kI] at HPE⊢;have Ah:Hid (cH 42 CS.length):=cE (by rw[Ad];exact cJ);have xB:Hid (cH 49 43):=cE cK;have HW:=cE (cD hw1 (cD eS (cD (de.trans (dz.mono de.size)) (cD k2 (cD hs1 hs2)))));have HH:=cE (cD h (cD ok hN));clear kI Ad hw1 eS de dz hs1 hs2 k1 k2 h ok hN hX hM;go_enter func13,ntmps13
 go_wp2_with (first
  |(rw[←HW.out.1])
  |(rw[←HW.out.2.1])
  |(refine an rfl 42 (.tmp 3) rfl w.heap.size 0 rfl CS _ HRC.out underlying42 rfl Ah.out ?_)
  |fail)
 refine HPE.out.mono ?_;rintro e w3 ⟨a,n,c,rfl,hp⟩;have eE:cF w w3:=HW.out.2.2.1.trans (hp.bl.mono HW.out.2.2.1.size);have hR3:w1.heap.size<w3.heap.size:=aC (aq HW.out.2.2.2.1) hp.bl.size;have hwR:w.heap.size≤w1.heap.size:=by have:=HW.out.2.2.2.2.1;omega
 have BM:=HH.out.1.newF eE (D:=w1.heap.size) hwR hR3;have hDl:(vR X).length≤1000000000:=by
  by_cases h:FD X=0
  ·have:=(FB h).2.1
   unfold mE at this;simp only[Bool.and_eq_true,decide_eq_true_eq] at this;omega
  unfold vR;rw[if_neg h];simp
 have Sd:Hid (aM prog 24 #[.p A.mb,.slice a n c] w3 (fq w0 w3 (A.one w1.heap.size) (m.done X))):=cE (by
  have:=sQ (A:=A.one w1.heap.size) BM HH.out.2.1 HH.out.2.2 hp.at_ hDl;rw[cS.Yz] at this;rw[hp.len];exact this)
 have kR3:w3.heap[w1.heap.size]?=some (.cells #[.B,.U,.U,.I,.U,.B,.z,.n,.I,.F,.F,.n,.I,.V,.I,.V,.n,.n,.U,.I,.I,.V,.n,.I,.z,.n,.U,.U,.U,.I,.U,.V,.V,.V,.n,.n,.I,.V,.I,.V,.n,.n,.U] 49 (0,0)):=(hp.bl.block _ (aq HW.out.2.2.2.1)).trans HW.out.2.2.2.1;have H3:=cE (cD eE (cD hR3 (cD hwR kR3)));clear eE hR3 hwR BM hDl kR3 hp;go_wp2_with fail
 refine Sd.out.mono ?_;rintro e w4 ⟨E,R,r,Lr,rfl,hE,hone,hl,hR,hI,hst,hk⟩;have kR4:w4.heap[w1.heap.size]?=some (.cells #[.B,.U,.U,.I,.U,.B,.z,.n,.I,.F,.F,.n,.I,.V,.I,.V,.n,.n,.U,.I,.I,.V,.n,.I,.z,.n,.U,.U,.U,.I,.U,.V,.V,.V,.n,.n,.I,.V,.I,.V,.n,.n,.U] 49 (0,0)):=hk.same H3.out.2.2.2 (fun e=>by
  have e:A.Z w1.heap.size:=e;have:=HH.out.1.Dx e;have:=H3.out.2.2.1;omega)
 have hFI:=U4 (n:=w1.heap.size) HH.out.1 H3.out.1 H3.out.2.2.1 H3.out.2.1 hk kR4 hst hE hone hl hR hI;have hZO:((E++R++cT (m.done X).2.i r).toArray:Array aE).all (·.oneCell')=true:=wV hone (ry hR);obtain⟨Z,hZ⟩:=cG (E++R++cT (m.done X).2.i r);rw[←hZ] at hFI hZO⊢;have BT:Z.length=43:=by rw[hZ,af,af,hE,hl];rfl
 have HFI:=cE hFI;have HZO:=cE hZO;have HZA:Hid (cH 49 Z.toArray.size):=cE (by rw[show Z.toArray.size=43 by simpa using BT];exact xB.out);have VA:Hid (cH 49 Z.length):=cE (by rw[BT];exact xB.out);have HZT:Hid (w4.there w1.heap.size 0 Z.toArray.size):=cE (by rw[show Z.toArray.size=43 by simpa using BT];exact dR kR4 0 43 cN);have MV:Hid (w4.there w1.heap.size 0 Z.length):=cE (by rw[BT];exact dR kR4 0 43 cN);clear hFI hZO BT hZ kR4 hE hone hl hR hI hst hk;go_wp2_with (first
  |(refine ag rfl 49 (.tmp 4) (.tmp 14) rfl w1.heap.size 0 Z.toArray rfl rfl HZT.out HZA.out HZO.out ?_;rw[au])
  |fail)
 refine aD (di rfl _ _ w1.heap.size 0 Z _ rfl (aa _ _ _ _ MV.out) underlying49 rfl VA.out) rfl ?_;exact HFI.out
end
theorem Pd{w0 w:World}(bl:cF w0 w)(mx:dG w0)(pow:gB w0){ao:Option Addr}{c:Nat}{L:List cP}(hbig:L.length≤1000)(hL:∀r∈L,r.length≤1000)(hS:gA w w.heap.size ao L)(s n:Int):
  aM prog 12 #[.i s,.i n,.slice ao L.length c] w (acF w0 w s n L):=by
 have GO:=cE (Gt ao c L w (mx.kept bl) hbig hL hS);have HH:=cE (cD bl (cD mx (cD pow (cD hbig (cD hL hS)))));obtain⟨N,hN⟩:=cG L.length;rw[←hN] at GO⊢;have HN:=cE hN;clear bl mx pow hbig hL hS hN;by_cases h1:n<1
 ·have hx:sX s n L=1:=by unfold sX;rw[if_pos (.inl h1)]
  go_enter func12,ntmps12
  go_wp2_with fail
  go_ret2
  exact⟨ah _ _,.inl ⟨by rw[hx];decide,by rw[hx];rfl⟩⟩
 by_cases h2:3<n
 ·have hx:sX s n L=1:=by unfold sX;rw[if_pos (.inr (.inl h2))]
  go_enter func12,ntmps12
  go_wp2_with fail
  go_ret2
  exact⟨ah _ _,.inl ⟨by rw[hx];decide,by rw[hx];rfl⟩⟩
 by_cases h3:s<0
 ·have hx:sX s n L=1:=by unfold sX;rw[if_pos (.inr (.inr (.inl h3)))]
  go_enter func12,ntmps12
  go_wp2_with fail
  go_ret2
  exact⟨ah _ _,.inl ⟨by rw[hx];decide,by rw[hx];rfl⟩⟩
 by_cases h4:n≤s
 ·have hx:sX s n L=1:=by unfold sX;rw[if_pos (.inr (.inr (.inr h4)))]
  go_enter func12,ntmps12
  go_wp2_with fail
  go_ret2
  exact⟨ah _ _,.inl ⟨by rw[hx];decide,by rw[hx];rfl⟩⟩
 have hx:sX s n L=mz L:=by unfold sX;rw[if_neg cL]
 obtain⟨sn,rfl⟩:∃k:Nat,s=k:=⟨s.toNat,by omega⟩;obtain⟨nn,rfl⟩:∃k:Nat,n=k:=⟨n.toNat,by omega⟩;have HX:=cE (cD hx (cD h1 (cD h2 h4)));obtain⟨ck,RW⟩:∃k,k=mz L:=⟨_,rfl⟩;rw[←RW] at GO hx;have HK:=cE RW;clear hx RW;by_cases hc0:ck=0
 ·subst hc0
  go_enter func12,ntmps12
  go_wp2_with fail
  refine GO.out.mono ?_;rintro e w1 ⟨rfl,de⟩;clear h1 h2 h3 h4;go_wp2_with fail
  obtain⟨bl,mx,pow,hbig,hL,hS⟩:=HH.out;have L0:cF w0 w1:=bl.trans (de.mono bl.size);have yw:gA w1 w1.heap.size ao L:=fun k p hk=>by
   obtain⟨b,off,e1,e2,e3⟩:=hS k p hk;exact⟨b,off,e1,aC e2 de.size,(de.cell (p:=⟨b,off+k,none⟩) e2).trans e3⟩
  have hL4:L.length≤4∧0<L.length∧∀r∈L,(dx r).isSome=true:=by
   have h0:=HK.out;unfold mz at h0;split at h0
   ·cases h0
   rename_i h5
   split at h0
   ·rename_i h6
    exact⟨by omega,by omega,fun r hr=>List.all_eq_true.1 h6 r hr⟩
   cases h0
  have pZ:Hid (∀W,cF w1 W→aM prog 41 #[.slice ao N c] W (VU L W)):=cE (fun W hW=>by
   rw[HN.out];exact mV ao c L W hbig (fun k p hk=>by
    obtain⟨b,off,e1,e2,e3⟩:=yw k p hk;exact⟨b,off,e1,aC e2 hW.size,(hW.cell (p:=⟨b,off+k,none⟩) e2).trans e3⟩))
  have H1:=cE (cD de (cD L0 (cD yw hL4)));clear de L0 yw bl mx pow hbig hL hS hL4;have hS:=ah w1.heap.size w1;refine(pZ.out w1 hS).mono ?_;rintro e w2 ⟨dz,hcl⟩;obtain⟨ra,rc,rfl,LU⟩:∃ra rc,e=.returned (.slice ra N rc)∧gG w2 (fun b=>w1.heap.size≤b) ra L:=by
   rcases hcl with ⟨h0,_⟩|⟨g,cap,h5,h6,h7,h8,h9⟩
   ·have:=H1.out.2.2.2.2.1
    rw[h0] at this;cases this
   rw[←HN.out] at h5;refine⟨some ⟨g,0,none⟩,cap,h5,fun k p hk=>⟨g,0,rfl,h6,h7,?_⟩⟩;have hkl:=(aK.1 hk).1;have h10:=(h9 k (by simpa using hkl)).1;have h11:L.toArray[k]! =p:=by simp[hk]
   rw[h11] at h10;simpa [encStr,bs,Value.s] using h10
  have HRA:=cE (cD LU dz);clear hcl LU dz;go_wp2_with fail
  refine(Ko w2 N (by rw[HN.out];exact H1.out.2.2.2.1) (fun _=>False)).mono ?_;rintro e w3 ⟨rfl,eE,EH⟩;have H3:=cE (cD eE EH);clear eE EH;go_wp2_with fail
  refine(Xp (sn:Int) w3).mono ?_;rintro e w4 ⟨rfl,lP⟩;have Kc:=cE lP;clear lP;go_wp2_with fail
  refine(Tp w4 nn (by have:=HX.out.2.2.1;omega)).mono ?_;rintro e w5 NV;obtain⟨va,vc,rfl,ho5,LN,jE⟩:=NV.sl;rw[List.length_replicate] at ho5⊢;have H5:=cE (cD LN jE);clear NV ho5 LN jE;obtain⟨w6,l6⟩:∃a,a=w5.alloc (.cells #[.i (sn:Int),.slice ra N rc,.n,.p w2.heap.size,.p (w3.heap.size+1),.slice va nn vc,.n] 107):=⟨_,rfl⟩;have CO:=cE l6;clear l6;go_upto_region 7 with (rw[←CO.out])
  obtain⟨LU,dz⟩:=HRA.out;obtain⟨eE,EH⟩:=H3.out;obtain⟨LN,jE⟩:=H5.out;obtain⟨de,L0,yw,hL4⟩:=H1.out;have hb4:cF w3 w4:=by rw[Kc.out];exact cR (cR (ah _ _) _) _
  have hs4:w4.heap.size=w3.heap.size+2:=by rw[Kc.out];simp
  have qb:cF w5 w6:=by rw[CO.out];exact cR (ah _ _) _
  have NZ:w6.heap.size=w5.heap.size+1:=by rw[CO.out];simp
  have BM:w4.heap[w3.heap.size]?=some (.map #[] 0):=by rw[Kc.out];exact(heap_alloc_old _ _ cN).trans (aj w3 _)
  have ZK:w4.heap[w3.heap.size+1]?=some (.cells #[.i (sn:Int),.U,.map (some w3.heap.size)] 198 (0,0)):=by
   have:=aj (w3.alloc (.map #[] 0)) (.cells #[.i (sn:Int),.U,.map (some w3.heap.size)] 198);rw[World.size_alloc] at this;rw[Kc.out];exact this
  have Zx:iM w4 (w3.heap.size+1) w3.heap.size sn 0 []:=⟨ZK,⟨#[],0,BM,MapKept.stamped_empty 0,fun x hx=>by simp at hx,rfl⟩⟩;have k6:w6.heap[w5.heap.size]?=some (.cells #[.i (sn:Int),.slice ra N rc,.n,.p w2.heap.size,.p (w3.heap.size+1),.slice va nn vc,.n] 107 (0,0)):=by rw[CO.out];exact aj w5 _
  have s12:=dz.size;have s23:=eE.size;have s45:=jE.size;have s01:=de.size;have hkl:w2.heap.size<w3.heap.size:=EH.lt;have b26:cF w2 w6:=eE.trans ((hb4.trans ((jE.trans (qb.mono jE.size)).mono hb4.size)).mono eE.size);have b36:cF w3 w6:=hb4.trans ((jE.trans (qb.mono jE.size)).mono hb4.size);have b46:cF w4 w6:=jE.trans (qb.mono jE.size);have hbase:OF w0 w w6 sn nn L w5.heap.size w2.heap.size (w3.heap.size+1) w3.heap.size ra va rc vc:=by
   refine⟨⟨by omega,by omega⟩,by rw[←HN.out];exact k6,?_,?_,?_,?_,⟨by omega,by omega,by omega,by omega⟩,de.trans ((dz.trans (b26.mono dz.size)).mono de.size)⟩
   ·exact((LU.mono (fun b h1 h2=>(⟨by omega,h2⟩:w.heap.size≤b∧b<w2.heap.size))).iJ (dm (S:=fun _=>False) b26) (fun _ _ _ e=>e))
   ·rw[←HN.out]
    exact EH.kept (dm (S:=fun _=>False) b36) (fun e=>e) (fun _ e=>e.elim)
   ·exact Zx.kept (dm (S:=fun _=>False) b46) (fun e=>e) (fun e=>e)
   exact(LN.mono (fun b h1 h2=>(⟨by have h2:w4.heap.size≤b:=h2;omega,h1⟩:w3.heap.size+1<b∧b<w5.heap.size))).kept (dm (S:=fun _=>False) qb) (fun _ _ _ e=>e)
  have HBS:=cE hbase;have OI:Hid (Fg w0 w6 w5.heap.size [.i sn,.slice ra L.length rc] [.p w2.heap.size,.p (w3.heap.size+1),.slice va nn vc,.n] L 0 (.n) [] w6):=cE
   ⟨rfl,by rw[←HN.out];exact k6,World.ownsRow_nil w6 w6.heap.size 57 1,(fun g hg=>by cases hg),(fun r b p hr _=>by simp at hr),List.nodup_nil,(fun b hb=>by cases hb),Kept.refl _ _⟩
  obtain⟨p0,hp0⟩:∃p,L[0]?=some p:=⟨_,aL hL4.2.1⟩;obtain⟨rb,ro,hao,_,_⟩:=yw 0 p0 hp0;subst hao;have hrow:∀(k:Nat) p wr,L[k]?=some p→Kept (·=w5.heap.size) w6 wr→wr.cell? ⟨rb,ro+k,none⟩=some (.s p):=fun k p wr hp hk=>by
   obtain⟨b,off,e1,e2,e3⟩:=yw k p hp;cases e1;have b16:cF w1 w6:=dz.trans (b26.mono dz.size);exact(hk.cell (p:=⟨rb,ro+k,none⟩) (aC e2 b16.size) (fun e=>by have e:rb=w5.heap.size:=e;omega)).trans ((b16.cell (p:=⟨rb,ro+k,none⟩) e2).trans e3)
  have al3:=cE hrow;have HQ:Hid (∀x∈[Value.int .i64 sn,.slice ra L.length rc]++[.p w2.heap.size,.p (w3.heap.size+1),.slice va nn vc,.n],J1 x=true):=cE (fun x hx=>by
   simp only[List.cons_append,List.nil_append,List.mem_cons,List.not_mem_nil,or_false] at hx;rcases hx with rfl|rfl|rfl|rfl|rfl|rfl<;>rfl)
  have hN4:N≤4:=by rw[HN.out];exact hL4.1
  have HM:Hid (w5.heap.size<w6.heap.size∧w0.heap.size≤w5.heap.size∧cF w0 w6):=cE ⟨by omega,by have:=L0.size;omega,L0.trans ((dz.trans (b26.mono dz.size)).mono L0.size)⟩;clear LU dz eE EH LN jE de L0 yw hL4 hb4 hs4 qb NZ BM ZK Zx k6 s12 s23 s45 s01 hkl b26 b36 b46 hbase hp0 hrow hS;obtain⟨i0,xF,hz0,hz1,hz2⟩:=info_parts QC;go_wp2_with fail
  go_loopw [48] (fun kv wr=>∃k:Nat,k≤N∧kv=.i k∧Hid (∃v T,Fg w0 w6 w5.heap.size [.i sn,.slice ra L.length rc] [.p w2.heap.size,.p (w3.heap.size+1),.slice va nn vc,.n] L k v T wr)) (fun kv _=>N - (intOf kv).toNat)
  case atStart=>exact⟨0,by omega,rfl,cE ⟨_,_,OI.out⟩⟩
  obtain⟨k,hk,rfl,HS⟩:=hrel;obtain⟨v,T,hst⟩:=HS.out;by_cases hlt:k<N
  ·obtain⟨p,hp⟩:∃p,L[k]?=some p:=⟨_,aL (by rw[←HN.out];exact hlt)⟩
   have zc:=al3.out k p wr hp hst.kept;have HP:=cE (cD hp hst);have kA:cF w0 wr:=HM.out.2.2.trans (hst.kept.below HM.out.2.2.size (fun b e=>by have e:b=w5.heap.size:=e;have:=HM.out.2.1;omega));have amf:=cE (TR.new kA HH.out.2.1 (HH.out.2.2.2.2.1 p (aN hp)) (H1.out.2.2.2.2.2 p (aN hp)));clear hst hp kA HS;go_wp2_with fail
   refine amf.out.mono ?_;rintro e w7 ⟨b,rfl,hR,iQ,mL⟩;have HR7:=cE (cD hR (cD iQ mL));obtain⟨wa,rL⟩:∃a,a=w7.alloc (.cells #[.p b] 57):=⟨_,rfl⟩;have hba:cF w7 wa:=by rw[rL];exact cR (ah _ _) _
   have hst:=HP.out.2;have hka:Kept (·=w5.heap.size) wr wa:=dm (mL.trans (hba.mono mL.size));have hca:∀j u,([Hy b]:List aE)[j]?=some u→wa.cell? ((⟨w7.heap.size,0,none⟩:Addr).add j)=some u:=fun j u hu=>by
    rw[Addr.add_lit,aH,rL,aG _ _ j _ 57 (0,0) (aj w7 _)];simpa [Hy] using hu
   have hlw:=hst.kept.size;have Gd:=mL.size;have ak0:=hba.size;have b6a:cF wr wa:=mL.trans (hba.mono mL.size);obtain⟨v',w8,hq8,hown',hgrow,zZ,hall⟩:=qY (P:=prog) (w:=wa) w6.heap.size 65 65 57 i0 (.pointer none) 1 8 underlying65 xF hz0 hz1 hz2 rfl cM v k (T.map Hy) (lD hst.own b6a) ⟨w7.heap.size,0,none⟩ 1 1 [Hy b] rfl hca (by intro u hu;simp at hu;subst hu;rfl) (by unfold maxLen;omega) cL cL (fun x=>J1 x=true) (hst.all.kept (dm (S:=fun _=>False) b6a) (fun _ _ e=>e)) (by intro u hu;simp at hu;subst hu;rfl) (by intro u hu;simp[Value.cells] at hu;subst hu;rfl) cM;obtain⟨sL,X4⟩:=hst.next rfl HP.out.1 HQ.out HM.out.1 HM.out.2.1 iQ hR mL hba hown' hgrow zZ hall;obtain⟨g',cap',rfl⟩:=ownsRow_succ hown';have c2:w7.cell? ⟨w5.heap.size,2,none⟩=some v:=by
    have k7:=(mL.block _ (aq hst.blk)).trans hst.blk;exact aG _ _ 2 _ _ (0,0) k7
   have c28:w8.cell? ⟨w5.heap.size,2,none⟩=some v:=aG _ _ 2 _ _ (0,0) X4;have f28:w8.frozen? ⟨w5.heap.size,2,none⟩=false:=by simp[aI,X4]
   have HWA:=cE rL;have HQ8:=cE hq8;have Ay:=cE sL;clear zc hR iQ mL rL hba hst hka hca hlw Gd ak0 b6a hown' hgrow zZ hall sL X4 hq8;go_wp2_with (first
    |(at_builtin;rw[←HWA.out];refine vA rfl (.tmp 61) (.tmp 63) 65 rfl v _ _ w8 rfl rfl HQ8.out ?_)
    |fail)
   go_roundw
   case rel=>exact⟨k+1,by omega,by go_num,cE ⟨_,_,Ay.out⟩⟩
   case measure=>simp[intOf];omega
  obtain rfl:k=N:=by omega
  have OI:=cE hst;clear hst HS;go_wp2_with fail
  go_ret2
  obtain⟨A,hA1,hA2,hA4,hA5⟩:=Xq HH.out.1 HH.out.2.1 HH.out.2.2.1 HBS.out (by have e:=OI.out;rw[HN.out] at e;exact e) H1.out.2.2.2.2.1;refine⟨?_,.inr ⟨by rw[HX.out.1,←HK.out],A,by rw[hA1];rfl,by rw[Int.toNat_natCast,Int.toNat_natCast];exact hA2,hA4,hA5⟩⟩;exact HBS.out.bl.trans (OI.out.kept.below HBS.out.bl.size (fun b e=>by have e:b=w5.heap.size:=e;have:=HBS.out.mbl.2;omega))
 go_enter func12,ntmps12
 go_wp2_with fail
 refine GO.out.mono ?_;rintro e w1 ⟨rfl,de⟩;clear h1 h2 h3 h4;go_wp2_with fail
 go_ret2
 exact⟨de,.inl ⟨by rw[HX.out.1,←HK.out];exact hc0,by rw[HX.out.1,←HK.out];rfl⟩⟩
section
variable{w0 w:World}{A:MA}{m:cS}{N:Nat}
theorem vI(h:cU w0 w A m)(ok:m.Ok N):aM prog 14 #[.p A.mb] w (jI w m.v):=by
 have c5:=h.cells.2.2.2.2.2.1;have HC:=cE (lH w A.va A.vc A.lo m.v (by have:=ok.vl;omega) h.data.v);obtain⟨n,hn⟩:=cG m.v.length;rw[←hn] at c5 HC;clear h ok hn;go_enter func14,ntmps14
 go_wp2_with fail
 refine HC.out.mono ?_;rintro e w2 ⟨v,rfl,h1⟩;have H1:=cE h1;clear h1;go_wp2
 go_ret
 exact⟨v,rfl,H1.out⟩
theorem B0{α:Type}{f:α→List aE}{K:Nat}(hf:∀x,(f x).length=K):∀(l:List α) (k j:Nat) (x:α) (u:aE),l[k]?=some x→(f x)[j]?=some u→(l.flatMap f)[k*K+j]?=some u
 |[],k,j,p,u,h,_=>by simp at h
 |y::ys,0,j,p,u,h,hu=>by
  simp at h;subst h;rw[aP,Nat.zero_mul,aH,List.getElem?_append_left (by exact(aK.1 hu).1)];exact hu
 |y::ys,k+1,j,p,u,h,hu=>by
  have e:(k+1)*K=K+k*K:=by rw[Nat.add_mul,Nat.one_mul,Nat.add_comm]
  rw[aP,List.getElem?_append_right (by rw[hf,e];omega),hf,show(k+1)*K+j - K=k*K+j by rw[e];omega];exact B0 hf ys k j p u (by simpa using h) hu
def MA.NS(A:MA)(m:cS):List (gK×dS):=m.own.zip (A.C.map (·.1))
theorem wC{i:Nat}{x:gK×dS}(h:(A.NS m)[i]?=some x):∃c,m.own[i]?=some x.1∧A.C[i]?=some c∧c.1=x.2∧(m.own.zip A.C)[i]?=some (x.1,c):=by
 unfold MA.NS at h;obtain⟨y,r⟩:=x;rw[aJ] at h;obtain⟨h1,h2⟩:=h;rw[aO] at h2;obtain⟨c,hc,e⟩:=Option.map_eq_some_iff.1 h2;exact⟨c,h1,hc,e,aJ.2 ⟨h1,hc⟩⟩
theorem cU.ae5(h:cU w0 w A m){g cap:Nat}(EE:A.ov=.slice (some ⟨g,0,none⟩) m.own.length cap):OG w mR (some ⟨g,0,none⟩) (A.NS m) (A.C.map (·.2)):=fun k x hx=>by
 obtain⟨c,h1,h2,h3,h4⟩:=wC hx;have hown:=h.own;rw[EE] at hown;refine⟨g,0,rfl,(hown.lt g rfl).2,fun j u hu=>?_,c.2,by rw[aO,h2];rfl,?_⟩
 ·rw[←h3] at hu
  have:=hown.cells (g:=g) rfl (k*7+j) u (B0 (f:=fun p:gK×(dS×List cZ)=>cT p.1 p.2.1) (K:=7) (fun _=>rfl) _ k j _ u h4 hu);rw[Addr.add_lit,aH] at this;rw[aH];exact this
 ·rw[←h3]
  exact(h.data.dY k x.1 c h1 h2).at_
def MA.oB(A:MA)(m:cS)(hv:Nat):List (gK×dS):=(gZ id hv (A.NS m) (A.NS m).length).take 8
theorem cU.FX(h:cU w0 w A m):(A.NS m).length=m.own.length:=by
 unfold MA.NS;rw[List.length_zip,List.length_map,h.cl,Nat.min_self]
theorem AP(h:cU w0 w A m)(ok:m.Ok N)(hN:N≤1000000)(hv:Nat):aM prog 15 #[.p A.mb,.v hv] w (xx w (A.oB m hv)):=by
 have c6:=h.cells.2.2.2.2.2.2;have HC:Hid (aM prog 47 #[A.ov,.v hv] w (xx w (A.oB m hv))):=cE (by
  rcases h.own.2 with ⟨e,h0⟩|⟨g,cap,cur,e,_⟩
  ·have h1:A.oB m hv=[]:=by
    have:=h.FX;unfold MA.oB gZ;rw[List.eq_nil_of_length_eq_zero (this.trans h0)];rfl
   rw[e,h1];exact PW w hv
  have hit:=h.ae5 e;have hl:=h.FX;have hown:=h.own;rw[e] at hown;have:=Iu w g 0 cap hv (A.NS m) (A.C.map (·.2)) mR hit (by rw[hl,ok.xV];exact ay (cS.wO ok.vN _) hN) (hown.lt g rfl).2 (fun x hx=>by
   obtain⟨k,hk⟩:=List.mem_iff_getElem?.1 hx;obtain⟨c,h1,_⟩:=wC hk;have hs:=(ok.own k x.1 h1).2.2;exact⟨by have:=hs.stamp.1;omega,by have:=hs.dB.1;omega,fun e he=>by have:=(hs.dB.2 e he).node.data;omega⟩)
  rw[hl] at this;rw[e];unfold MA.oB;rw[hl];exact this)
 obtain⟨ov,EE⟩:∃v,v=A.ov:=⟨_,rfl⟩;rw[←EE] at c6 HC;clear h ok EE;go_enter func15,ntmps15
 go_wp2_with fail
 refine HC.out.mono ?_;rintro e w2 ⟨v,C,rfl,h1⟩;have H1:=cE h1;clear h1;go_wp2
 go_ret
 exact⟨v,C,rfl,H1.out⟩
end
end
