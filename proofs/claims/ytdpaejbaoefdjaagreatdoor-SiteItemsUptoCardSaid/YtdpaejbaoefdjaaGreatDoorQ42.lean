/- Part 42. -/
import Derived.Test.YtdpaejbaoefdjaaGreatDoorQ41
open List renaming getElem?_eq_getElem → aa,getElem?_eq_some_iff → ag
open Go.World renaming block_lt_of_cell? → af
open Go.RowKit.Below renaming refl → ah
namespace Go.Proofs.YtdpaejbaoefdjaaGreatDoor
open Go.Proofs.Tryz
set_option maxRecDepth 100000
set_option maxHeartbeats 64000000
set_option linter.unusedVariables false
set_option linter.unusedSimpArgs false
section
open Go.RowKit Go.Shelf Go.MapKept Go.ChangeMaps
theorem zy{α:Type}(f:α→Nat)(hv:Nat):∀(l:List α) (base:Nat),(∀(k:Nat) x,l[k]?=some x→f x=base+k+1)→l.filter (fun x=>decide (hv<f x))=l.drop (hv - base)
 |[],base,_=>by simp
 |x::l,base,h=>by
  have h0:f x=base+1:=by have:=h 0 x rfl;omega
  have ih:=zy f hv l (base+1) (fun k y hk=>by have:=h (k+1) y (by simpa using hk);omega);rw[List.filter_cons];by_cases hc:hv<f x
  ·rw[if_pos (by simpa using hc),ih]
   have e1:hv - (base+1)=0:=by omega
   have e2:hv - base=0:=by omega
   rw[e1,e2];rfl
  ·rw[if_neg (by simpa using hc),ih]
   have e2:hv - base=(hv - (base+1))+1:=by omega
   rw[e2,List.drop_succ_cons]
section
variable{w0 w:World}{A:MA}{m:cS}{N:Nat}
theorem Bu(h:cU w0 w A m)(ok:m.Ok N)(hv:Nat):A.oB m hv=((A.NS m).drop hv).take 8:=by
 unfold MA.oB gZ;rw[List.take_of_length_le (Nat.le_refl _)];have:=zy (fun x:gK×dS=>x.1.seq) hv (A.NS m) 0 (fun k x hx=>by
  obtain⟨c,h1,_⟩:=wC hx;have:=(ok.own k x.1 h1).2.1;omega)
 simp only[id] at*;rw[this];rfl
theorem PV(h:cU w0 w A m)(ok:m.Ok N){hv t:Nat}{x:gK×dS}(hx:(A.oB m hv)[t]?=some x):m.own[hv+t]?=some x.1∧x.1.ew=m.site∧x.1.seq=hv+t+1:=by
 rw[Bu h ok,List.getElem?_take] at hx;split at hx
 ·rw[List.getElem?_drop] at hx
  obtain⟨c,h1,_⟩:=wC hx;exact⟨h1,(ok.own _ x.1 h1).1,(ok.own _ x.1 h1).2.1⟩
 cases hx
theorem PU(h:cU w0 w A m)(ok:m.Ok N)(hv:Nat):(A.oB m hv).length=min 8 (m.own.length - hv):=by
 rw[Bu h ok,List.length_take,List.length_drop,h.FX]
end
def kZ(m:cS)(j:Nat):List Nat:=if j=0 then [0,0] else ((m.own[j - 1]?).getD ko).stamp
theorem BG{m:cS}{j:Nat}{x:gK}(h:m.own[j]?=some x):kZ m (j+1)=x.stamp:=by
 unfold kZ;rw[if_neg cL,Nat.add_sub_cancel,h];rfl
theorem Qo{m:cS}(hc:m.zT)(hl:m.v.length=2){j:Nat}{x:gK}(h:m.own[j]?=some x):gq (kZ m j) x.stamp=true∧gq x.stamp m.v=true∧(kZ m j).length=2∧x.stamp.length=2:=by
 have h1:=hc.top x (List.mem_of_getElem? h);have h2:x.stamp.length=2:=by rw[wj h1,hl]
 have h3:gq (kZ m j) x.stamp=true:=by
  unfold kZ;split
  ·have:=Ef x.stamp
   rw[h2] at this;exact this
  rename_i h0
  have hj:j - 1<m.own.length:=by have:=(ag.1 h).1;omega
  obtain⟨y,hy⟩:∃y,m.own[j - 1]?=some y:=⟨_,aa hj⟩;rw[hy];exact hc.up (j - 1) y x hy (by rw[show j - 1+1=j by omega];exact h)
 exact⟨h3,h1,by rw[wj h3,h2],h2⟩
structure ItM(m:cS):Prop where
 ch:m.zT
 vl:m.v.length=2
 site:m.site=0
theorem ItM.new:ItM UF:=⟨cS.zT.new _ _ _,rfl,rfl⟩
theorem cS.step_done(m:cS)(X:iS):cS.Step m (m.done X).1:=by
 unfold cS.done;split
 ·exact cS.AH m _
 exact cS.Step.refl m
theorem ItM.done{m:cS}(h:ItM m)(X:iS):ItM (m.done X).1:=⟨h.ch.step (m.step_done X),by rw[(m.step_done X).len];exact h.vl,by rw[(m.step_done X).site];exact h.site⟩
def ItS(w1 wr:World)(mb:Nat)(k:Nat):Prop:=∃A m,GS w1 wr mb A m k [] []∧ItM m
theorem aeE(w:World):(Instr.makeSlice 37 (.i 2) (.i 2)).run prog w=.ok (.slice (some ⟨w.heap.size,0,none⟩) 2 2) (w.alloc (.cells #[.V,.V] 36)):=by kernel_rfl
theorem Vm(w:World)(Z:List Value)(hl:Z.length=7):∃wa wb,wa=w.alloc (.cells #[.I,.V,.I,.V,.n,.n,.U] 40)∧wb=wa.setCells w.heap.size 0 Z∧wb.heap[w.heap.size]?=some (.cells Z.toArray 40 (0,0))∧cF w wb∧
  wa.there w.heap.size 0 Z.toArray.size∧(prog.info? 40).map (·.size)=some Z.toArray.size:=by
 have ka:=heap_alloc_new w (.cells #[.I,.V,.I,.V,.n,.n,.U] 40);have e:Z.toArray.size=7:=by simpa using hl
 refine⟨_,_,rfl,rfl,fG ka hl,iy (w1:=w) (cR (ah _ w) _) 0 _ (Nat.le_refl _),?_,?_⟩
 ·rw[e]
  exact dR ka 0 7 cN
 rw[e]
 kernel_rfl
theorem Qx{w:World}(mx:dG w)(pow:gB w)(a:Option Addr)(c:Nat)(L:List jj)(hat:CC w a L)(hl:L.length≤maxLen):
  Calls prog 3 #[.slice a L.length c] w fun e w'=>e=.returned (.T)∧cF w w':=by
 have HGR:=cE (IP w a c L hat hl);obtain⟨n,hn⟩:=cG L.length;rw[←hn] at HGR⊢;have HA:=cE (cD hat (cD hn (cD mx pow)));have Ah:Hid (cH 42 23):=cE cK;have HSI:Hid (cH 40 7):=cE cK;clear hat hl hn mx pow;go_enter func3,ntmps3
 go_wp2_with fail
 refine HGR.out.mono ?_;rintro e w1 ⟨⟨g,rfl,LW⟩,de⟩;cases g with
 |true=>
  have HB:=cE de;clear de LW;go_wp2_with fail
  go_ret
  exact⟨rfl,HB.out⟩
 |false=>
 have Ud:n≤60:=LW rfl;clear LW;obtain⟨w2,eS⟩:∃a,a=w1.alloc (.cells #[.string ⟨#[47,114]⟩] 9):=⟨_,rfl⟩;have dz:cF w w2:=by rw[eS];exact de.trans ((cR (ah _ w1) _).mono de.size)
 have hS:gA w2 w2.heap.size (some ⟨w1.heap.size,0,none⟩) [pR]:=fun k p hk=>by
  have h0:k=0:=by have:=(ag.1 hk).1;simp at this;omega
  subst h0;simp at hk;subst hk;exact⟨w1.heap.size,0,rfl,by rw[eS];simp,by rw[eS];exact cell_of_row _ _ 0 _ 9 (0,0) (heap_alloc_new w1 _)⟩
 have Wt:Hid (Calls prog 12 #[.I,.i 2,.slice (some ⟨w1.heap.size,0,none⟩) 1 1] w2 fun e w'=>cF w2 w'∧∃A:MA,e=.returned (.tuple #[.p A.mb,.I])∧cU w2 w' A UF∧∀b,A.Z b→w2.heap.size≤b):=cE (sB (c:=1) (HA.out.2.2.1.kept dz) (iw HA.out.2.2.2 dz) hS 0 2 ⟨by decide,fun r hr=>by simp at hr;subst hr;decide⟩ (fU.2.2.2.2.2.2.2.2.2.2.2));have lS:=cE (cD eS dz);clear hS eS dz de;go_wp2_with (first|rw[←lS.out.1]|fail)
 refine Wt.out.mono ?_;rintro e w3 ⟨eE,A0,rfl,hA,_⟩;obtain⟨mb,hmb⟩:∃n,n=A0.mb:=⟨_,rfl⟩;rw[←hmb];have YV:Hid (ItS w2 w3 mb 0):=cE ⟨A0,UF,⟨hmb.symm,hA,UE,(fun x hx=>by cases hx),(fun x hx=>by cases hx)⟩,ItM.new⟩;clear eE hA hmb;go_wp2_with fail
 go_loopw [5] (fun iv wr=>∃k:Nat,k≤n∧iv=.i k∧Hid (ItS w2 wr mb k)) (fun iv _=>n - (intOf iv).toNat)
 case atStart=>exact⟨0,by omega,rfl,YV⟩
 obtain⟨k,hk,rfl,HS⟩:=hrel;by_cases hlt:k<n
 ·obtain⟨x,hx⟩:∃x,L[k]?=some x:=⟨_,aa (by rw[←HA.out.2.1];exact hlt)⟩
  obtain⟨A,m,hg,hm⟩:=HS.out;have kA:cF w wr:=lS.out.2.trans (hg.fS.bl.mono lS.out.2.size);obtain⟨b,off,ha,hb,eW,hin,hmd⟩:=HA.out.1 k x hx;subst ha;have hrw:=dA eW kA hb;have HCA:Hid (Calls prog 13 #[.p mb,.agg x.cells.toArray] wr (fq w2 wr A (m.done x.X))):=cE (hg.call cL (hin.below kA) (hmd.below kA));obtain⟨CS,kI⟩:∃l,l=x.cells:=⟨_,rfl⟩;rw[←kI] at HCA hrw;have Ad:CS.length=23:=by rw[kI];rfl
  have mX:=cE hrw;have Ag:Hid (cH 42 CS.length):=cE (by rw[Ad];exact Ah.out);have HG:=cE (cD hg hm);have Y8:decide ((k:Int)<(n:Int))=true:=by simp;omega
  clear hx hg hm kA hb eW hin hmd hrw kI Ad HS;go_wp2_with (first
   |(refine wpList_load_mid rfl 42 (.tmp 34) rfl b (off+k*23) rfl CS _ mX.out underlying42 rfl Ag.out ?_)
   |fail)
  refine HCA.out.mono ?_;rintro e w5 hd;obtain⟨Z,A',rfl,_,hg',_,_⟩:=HG.out.1.done cL hd;have HN:Hid (ItS w2 w5 mb (k+1)):=cE ⟨A',_,hg',HG.out.2.done x.X⟩;clear hd hg';go_wp2_with fail
  go_roundw
  case rel=>exact⟨k+1,by omega,by go_num,HN⟩
  case measure=>simp[intOf];omega
 obtain rfl:k=n:=by omega
 obtain⟨wA,hwA⟩:=cG wr;subst hwA;obtain⟨A,m,hg,hm⟩:=HS.out;have HVV:Hid (Calls prog 14 #[.p mb] wA fun e w'=>∃va vc,e=.returned (.slice va 2 vc)∧dr w' mR va m.v∧cF wA w'):=cE (by
  have:=vI hg.fS hg.ok;rw[hg.ID] at this;refine this.mono ?_;rintro e w' hv;obtain⟨va,vc,rfl,_,hst,hb⟩:=hv.sl;exact⟨va,vc,by rw[hm.vl],hst.mono (fun _ _ _=>trivial),hb⟩)
 have HG:=cE (cD hg hm);have Y8:decide ((k:Int)<(k:Int))=false:=by simp
 clear hg hm HS hlt;go_wp2_with fail
 refine HVV.out.mono ?_;rintro e w6 ⟨va,vc,rfl,hst,qb⟩;obtain⟨w7,nY⟩:∃a,a=w6.alloc (.cells #[.V,.V] 36):=⟨_,rfl⟩;have mL:cF w6 w7:=by rw[nY];exact cR (ah _ _) _
 have HV:Hid (dr w7 mR va m.v∧cF wA w7):=cE ⟨hst.below mL,qb.trans (mL.mono qb.size)⟩;have HL0:Hid (dr w7 mR (some ⟨w6.heap.size,0,none⟩) (kZ m 0)):=cE (pg nY);have hmk:=aeE w6;rw[←nY] at hmk;clear hst qb nY mL HVV;obtain⟨M,hM⟩:=cG m.own.length;have aqM:M≤60:=by
  rw[hM,HG.out.1.ok.xV];exact Nat.le_trans (cS.wO HG.out.1.ok.vN _) Ud
 have HM:=cE hM;clear hM;go_wp2_with fail
 go_loopw [7,8] (fun av lv wr=>∃(j:Nat) (la:Option Addr) (lc:Nat),j≤M∧av=.v j∧lv=.slice la 2 lc∧Hid (cF w7 wr∧dr wr mR la (kZ m j)∧(kZ m j).length=2)) (fun av _ _=>M+1 - (intOf av).toNat)
 case atStart=>exact⟨0,_,_,by omega,rfl,rfl,cE ⟨ah _ _,HL0.out,rfl⟩⟩
 obtain⟨j,la,lc,hj,rfl,rfl,HR⟩:=hrel;have ZM:=HG.out.1.below (HV.out.2.trans (HR.out.1.mono HV.out.2.size));have Ay:Hid (Calls prog 15 #[.p mb,.v j] wr (xx wr (A.oB m j))):=cE (by
  have:=AP ZM.fS ZM.ok cL j
  rwa [ZM.ID] at this)
 have hnl:=PU ZM.fS ZM.ok j;have hng:∀(t:Nat) x,(A.oB m j)[t]?=some x→m.own[j+t]?=some x.1∧x.1.ew=m.site∧x.1.seq=j+t+1:=fun t x hx=>PV ZM.fS ZM.ok hx
 have HNG:=cE hng;obtain⟨P,hP⟩:=cG (A.oB m j);rw[←hP] at Ay HNG hnl;rw[←HM.out] at hnl;clear ZM hng hP;go_wp2_with fail
 refine Ay.out.mono ?_;rintro e w8 ⟨v8,C,rfl,hC,how,hit,CI⟩;obtain⟨na,nc,rfl⟩:=iA how;obtain⟨pn,N5⟩:∃k,k=P.length:=⟨_,rfl⟩;rw[←N5] at hnl how⊢;have H8:=cE (cD hC (cD how (cD hit (cD CI N5))));clear hC how hit CI N5;by_cases hp0:pn=0
 ·subst hp0
  have hjM:j=M:=by omega
  subst hjM;have TU:m.v[0]?=some j:=by
   have h1:=HG.out.1.ok.xV;rw[HG.out.2.site,←HM.out] at h1;have h2:=HG.out.2.vl;obtain⟨x,hx⟩:∃x,m.v[0]?=some x:=⟨_,aa cL⟩;have h3:m.v.getD 0 0=x:=by unfold List.getD;rw[hx];rfl
   rw[hx,←h3,←h1]
  obtain⟨vb,vo,LK,_,Zu,XV⟩:=HV.out.1 0 j TU;subst LK;have iQ:=HR.out.1.trans (H8.out.2.2.2.1.mono HR.out.1.size);have c8:w8.cell? ⟨vb,vo,none⟩=some (.v j):=(iQ.cell (p:=⟨vb,vo,none⟩) Zu).trans XV;have kA:cF w w8:=lS.out.2.trans ((HG.out.1.below (HV.out.2.trans (iQ.mono HV.out.2.size))).fS.bl.mono lS.out.2.size);have JV:=cE (BW (HA.out.2.2.1.kept kA) (iw HA.out.2.2.2 kA));have RM:=cE kA;clear TU Zu XV iQ kA hnl;go_wp2_with fail
  refine JV.out.mono ?_;rintro e w9 ⟨rfl,BS⟩;have ON:=cE (RM.out.trans (BS.mono RM.out.size));clear BS;go_wp2_with fail
  go_ret
  exact⟨by simp,ON.out⟩
 have tp:((pn:Int)==0)=false:=by simp;omega
 obtain⟨g8,hna⟩:∃g,na=some ⟨g,0,none⟩:=by
  rcases H8.out.2.1.2 with ⟨_,h0⟩|⟨g,cap,cur,e,_⟩
  ·omega
  cases e;exact⟨g,rfl⟩
 subst hna;have hIT:∀(t:Nat) x,P[t]?=some x→∃(r:dS) (Lr:List cZ),w8.rangeAt g8 (t*7) (cT x.1 r)∧dr w8 mR r.sa x.1.stamp:=fun t x hx=>by
  obtain⟨hC,how,hit,_,N5⟩:=H8.out;have ht:=(ag.1 hx).1;obtain⟨c,hc⟩:∃c,C[t]?=some c:=⟨_,aa (by rw[hC];exact ht)⟩;refine⟨c.1,c.2,fun i u hu=>?_,(hit t x c hx hc).stamp.mono (fun _ _ _=>trivial)⟩;have:=how.cells (g:=g8) rfl (t*7+i) u (B0 (f:=fun p:(gK×dS)×(dS×List cZ)=>cT p.1.1 p.2.1) (K:=7) (fun _=>rfl) _ t i (x,c) u (List.getElem?_zip_eq_some.2 ⟨hx,hc⟩) hu);rw[Addr.add_lit,Nat.zero_add] at this;exact this
 have RS:g8<w8.heap.size:=(H8.out.2.1.lt g8 rfl).2;have HIT:=cE (cD hIT RS);have HR0:Hid (j=j+0∧cF w8 w8∧dr w8 mR la (kZ m j)∧(kZ m j).length=2):=cE ⟨rfl,ah _ _,HR.out.2.1.below H8.out.2.2.2.1,HR.out.2.2⟩;have VN:=cE (HR.out.1.trans (H8.out.2.2.2.1.mono HR.out.1.size));have ako:pn≤8:=by omega
 have hjp:j+pn≤M:=by omega
 have HJ:=cE (cD hj (cD ako hjp));clear hIT RS hnl HR;go_wp2_with fail
 go_loopw [7,8,10] (fun av lv iv wr=>∃(t q:Nat) (la:Option Addr) (lc:Nat),t≤pn∧q≤60∧av=.v q∧lv=.slice la 2 lc∧iv=.i t∧Hid (q=j+t∧cF w8 wr∧dr wr mR la (kZ m q)∧(kZ m q).length=2)) (fun _ _ iv _=>pn - (intOf iv).toNat)
 case atStart=>exact⟨0,j,_,_,by omega,by omega,rfl,rfl,rfl,HR0⟩
 obtain⟨t,q,la2,lc2,ht,aqc,rfl,rfl,rfl,HQ⟩:=hrel;by_cases hlt:t<pn
 ·have aef:decide ((t:Int)<(pn:Int))=true:=by simp;omega
  obtain⟨x,hx⟩:∃x,P[t]?=some x:=⟨_,aa (by rw[←H8.out.2.2.2.2];exact hlt)⟩;obtain⟨r,Lr,eW,hst⟩:=HIT.out.1 t x hx;obtain⟨hown,abH,hseq⟩:=HNG.out t x hx;rw[←HQ.out.1] at hown hseq;rw[HG.out.2.site] at abH;obtain⟨l1,l2,l3,l4⟩:=Qo HG.out.2.ch HG.out.2.vl hown;obtain⟨CS,kI⟩:∃l,l=cT x.1 r:=⟨_,rfl⟩;have Ad:CS.length=7:=by rw[kI];rfl
  have hone:(CS.toArray:Array Value).all (·.oneCell')=true:=by rw[kI];simp[cT,Value.oneCell']
  have q0:CS[0]?=some (.I):=by rw[kI];show some (Value.int .i64 x.1.ew)=_;rw[abH];rfl
  have q1:CS[1]?=some (.v ((q:Int)+1)):=by rw[kI];show some (Value.int .u64 (x.1.seq:Int))=_;rw[hseq];rfl
  have q4:CS[4]?=some (.slice r.sa 2 r.sc):=by rw[kI];show some (Value.slice r.sa x.1.stamp.length r.sc)=_;rw[l4]
  rw[←kI] at eW;obtain⟨wa,wb,rL,ym,hkb,iQ,p9,hin⟩:=Vm wr CS Ad;have hcell:∀j v,CS[j]?=some v→wb.cell? ⟨wr.heap.size,j,none⟩=some v:=fun j v hv=>by
   rw[cell_of_row _ _ j _ 40 (0,0) hkb];simpa using hv
  have z0:=hcell 0 _ q0;have z1:=hcell 1 _ q1;have z4:=hcell 4 _ q4;have h8b:cF w8 wb:=HQ.out.2.1.trans (iQ.mono HQ.out.2.1.size);have mX:=cE (dA eW HQ.out.2.1 HIT.out.2);have Ag:Hid (cH 40 CS.length):=cE (by rw[Ad];exact HSI.out);have iY:=cE (cD rL (cD ym (cD p9 (cD hin hone))));have HL1:Hid (Calls prog 17 #[.slice la2 2 lc2,.slice r.sa 2 r.sc] wb fun e w'=>e=.returned (.T)∧cF wb w'):=cE (by
   have:=Ap wb la2 r.sa lc2 r.sc (kZ m q) x.1.stamp mR mR cL cL (HQ.out.2.2.1.below iQ) (hst.below h8b)
   rwa [l1,l3,l4] at this)
  have HL2:Hid (∀W,cF wb W→Calls prog 17 #[.slice r.sa 2 r.sc,.slice va 2 vc] W fun e w'=>e=.returned (.T)∧cF W w'):=cE (fun W hW=>by
   have h7W:cF w7 W:=(VN.out.trans (h8b.mono VN.out.size)).trans (hW.mono (Nat.le_trans VN.out.size h8b.size));have:=Ap W r.sa va r.sc vc x.1.stamp m.v mR mR cL (by rw[HG.out.2.vl];decide) ((hst.below h8b).below hW) (HV.out.1.below h7W)
   rwa [l2,l4,HG.out.2.vl] at this)
  have HX:=cE (cD hst (cD hown (cD l4 h8b)));have tw:∀_:True,IntKind.u64.wrap ((q:Int)+1)=(q:Int)+1:=fun _=>by rw[IntKind.wrap_u64];omega
  clear hx eW hst hown abH hseq l1 l2 l3 l4 kI Ad hone q0 q1 q4 rL ym hkb iQ p9 hin hcell h8b;go_wp2_with (first
   |(refine wpList_load_mid rfl 40 (.tmp 65) rfl g8 (t*7) rfl CS _ mX.out underlying40 rfl Ag.out ?_)
   |(rw[←iY.out.1];refine wpList_store_mid rfl 40 (.tmp 11) (.tmp 66) rfl wr.heap.size 0 CS.toArray rfl rfl iY.out.2.2.1 iY.out.2.2.2.1 iY.out.2.2.2.2 ?_;rw[List.toList_toArray,←iY.out.2.1])
   |fail)
  refine HL1.out.mono ?_;rintro e x1 ⟨rfl,de⟩;have z4a:=(de.cell (p:=⟨wr.heap.size,4,none⟩) (af _ _ z4)).trans z4;have z1a:=(de.cell (p:=⟨wr.heap.size,1,none⟩) (af _ _ z1)).trans z1;have jk:=cE de;clear z0 z1 z4 de;go_wp2_with fail
  refine(HL2.out x1 jk.out).mono ?_;rintro e x2 ⟨rfl,dz⟩;have z4b:=(dz.cell (p:=⟨wr.heap.size,4,none⟩) (af _ _ z4a)).trans z4a;have z1b:=(dz.cell (p:=⟨wr.heap.size,1,none⟩) (af _ _ z1a)).trans z1a;have nN:cF w8 x2:=HX.out.2.2.2.trans ((jk.out.trans (dz.mono jk.out.size)).mono HX.out.2.2.2.size);have HN:Hid (q+1=j+(t+1)∧cF w8 x2∧dr x2 mR r.sa (kZ m (q+1))∧(kZ m (q+1)).length=2):=cE ⟨by rw[HQ.out.1];omega,nN,by rw[BG HX.out.2.1];exact(HX.out.1.below HX.out.2.2.2).below (jk.out.trans (dz.mono jk.out.size)),by rw[BG HX.out.2.1];exact HX.out.2.2.1⟩;have hq1:q+1≤60:=by have:=HQ.out.1;have:=HJ.out.2.2;omega
  clear z4a z1a dz nN;go_wp2_with fail
  go_roundw
  case rel=>exact⟨t+1,q+1,r.sa,r.sc,by omega,hq1,by go_num,rfl,by go_num,HN⟩
  case measure=>simp[intOf];omega
 obtain rfl:t=pn:=by omega
 have hq:=HQ.out.1;have hNJ:Hid (cF w7 wr∧dr wr mR la2 (kZ m q)∧(kZ m q).length=2):=cE ⟨VN.out.trans (HQ.out.2.1.mono VN.out.size),HQ.out.2.2.1,HQ.out.2.2.2⟩;have hqM:q≤M:=by have:=HJ.out.2.2;omega
 have hqj:j<q:=by omega
 have aqu:j≤60:=by omega
 clear hq;go_wp2_with fail
 go_roundw
 case rel=>exact⟨q,la2,lc2,hqM,rfl,rfl,hNJ⟩
 case measure=>simp[intOf];omega
end
