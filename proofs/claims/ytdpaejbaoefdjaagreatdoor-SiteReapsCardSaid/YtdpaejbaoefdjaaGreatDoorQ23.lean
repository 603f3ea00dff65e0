/- Part 23. -/
import Derived.Test.YtdpaejbaoefdjaaGreatDoorQ18
import Derived.Test.YtdpaejbaoefdjaaGreatDoorQ22
open List renaming length_append → aa,append_assoc → af,cons_append → ah,nil_append → aj,sum_cons → aq,map_cons → au,getElem?_eq_getElem → ay,take_of_length_le → aB
open Nat renaming le_refl → ag
open Go renaming wpAnyH_done → an,wpList_load_mid → aA,World → aC
open Go.Lib renaming bytesWorld_size → aD
namespace Go.Proofs.YtdpaejbaoefdjaaGreatDoor
open Go.Proofs.Tryz
set_option maxRecDepth 100000
set_option maxHeartbeats 64000000
set_option linter.unusedVariables false
set_option linter.unusedSimpArgs false
section
open Go.RowKit Go.Shelf Go.MapKept Go.ChangeMaps
theorem Cl(w:aC)(p:cP):∃c w1,(convert 9 32 (.s p)).run prog w=.ok (.slice (some ⟨w.heap.size,0,none⟩) p.length c) w1∧iF w p (some ⟨w.heap.size,0,none⟩) p.length c w1:=by
 have h:=Lib.run_convert_string_bytes w 9 32 5 (bs p) underlying9 underlying32 underlying5;rw[eP] at h;refine⟨_,_,h,rfl,⟨fun j x hj=>⟨w.heap.size,0,rfl,ag _,by rw[aD];omega,?_⟩,fun e=>by cases e⟩,?_⟩
 ·have hjl:=(List.getElem?_eq_some_iff.1 hj).1
  rw[Nat.zero_add,Lib.bytesWorld_cell w 5 (bs p) j (by rw[eP];exact hjl),gr];rw[List.getD_eq_getElem?_getD,hj];rfl
 refine⟨rfl,rfl,rfl,by rw[aD];omega,fun k hk=>Lib.bytesWorld_at_old w 5 (bs p) k hk⟩
def wU(e:gh):cP:=nk e.path++dI 1 (tR e.gone)++(if e.gone=true then [] else yX e.node)
theorem xO(s n:Int):(kY s n).length=9:=by unfold kY;rw[aa,dw,dw]
theorem xL(D:cP):(nk D).length=4+D.length:=by unfold nk;rw[aa,dw]
theorem PO(d:Nd):(yX d).length=61+d.data.length:=by
 unfold yX;simp only[aa,dw,xO,xL];omega
theorem UX(e:gh):(wU e).length≤66+e.path.length+e.node.data.length:=by
 unfold wU;rw[aa,aa,xL,dw];split
 ·simp
  omega
 rw[PO];omega
theorem Mn(w:aC){ao:Option Addr}{nb c:Nat}{B:cP}(hB:BytesIn w ao nb c B)(r:cZ)(x:gh){lo:Nat→Prop}(hr:kP w lo r x)(hn:tY x.node.num)(hl:B.length+x.path.length+x.node.data.length≤600000000):
  Calls prog 197 #[.slice ao nb c,r.val] w (eU w (B++wU x)):=by
 obtain⟨rp,rg,⟨da,dn,dc,⟨q1,q2,q3,q4,q5,q6,q7,q8⟩⟩⟩:=r;obtain⟨p,g,d⟩:=x;obtain⟨h1,h2,h3⟩:=hr;dsimp only at h1 h2 h3 hn hl;subst h1 h2;unfold cZ.val cZ.cells Raw.cells eL.cells;dsimp only[ah,aj];obtain⟨w1,hw1,de,hs1,eW⟩:=dO w [.s rp,.bool rg,.slice da dn dc,.u q1,.u q2,.u q3,.i q4,.u q5,.v q6,.v q7,.v q8] 93;have y0:∀w',cF w1 w'→w'.cell? ⟨w.heap.size,0,none⟩=some (.s rp):=fun w' h=>eW w' h 0 _ rfl
 have y1:∀w',cF w1 w'→w'.cell? ⟨w.heap.size,1,none⟩=some (.bool rg):=fun w' h=>eW w' h 1 _ rfl
 have Az:=cE fun W (h:cF w1 W)=>hB.below (de.trans (h.mono de.size))
 have Kf:=cE (cD h3 (cD hn hl));have HW:=cE (cD hw1 (cD de eW));clear hB hw1 eW h3 hn hl de;go_enter func197,ntmps197
 go_wp2_with fail
 rw[←HW.out.1];refine rB fun wd hS=>?_
 refine tI 0 rfl hS ?_;refine tI 1 rfl hS ?_;refine tJ 2 rfl hS y0 ?_;refine tI 5 rfl hS ?_;simp only[cQ];refine tJ 6 rfl hS y1 ?_;simp only[cQ];obtain⟨cc,w2,hcv,hps⟩:=Cl wd rp;have oW:=hS.trans (hps.bl.mono hS.size);have HTX:=cE (o8 w2 (Az.out w2 oW) (by have:=Kf.out.2.2;omega) hps.pN (by have:=Kf.out.2.2;omega));refine gI 3 rfl _ w2 oW ?_;clear hcv hps;simp only[cQ];refine cI 4 rfl ?_;refine HTX.out.mono ?_;rintro e w3 ⟨a3,n3,c3,rfl,P3⟩;have dU:=oW.trans (P3.bl.mono oW.size);refine⟨dU,?_⟩;simp only[cQ];refine cI 7 rfl ?_;refine(rN w3 P3.pN (by have:=Kf.out.2.2;simp only[aa,dw];omega) rg).mono ?_;rintro e w4 ⟨a4,n4,c4,rfl,P4⟩;have eM:=dU.trans (P4.bl.mono dU.size);refine⟨eM,?_⟩;simp only[cQ];refine tI 8 rfl eM ?_;simp only[cQ];refine an cK ?_ _;have H4:=cE (((P4.trans P3.bl).trans oW).trans HW.out.2.1);have JS:=cE eM;clear P3 P4 hS oW dU eM;have k1:=y1 w4 JS.out;clear y0 y1;cases rg with
 |true=>
  go_wp2
  go_ret
  exact⟨a4,n4,c4,rfl,H4.out.cast (by unfold wU nk;simp[af])⟩
 |false=>
 have hrs:w4.rangeAt w.heap.size 2 [.slice da dn dc,.u q1,.u q2,.u q3,.i q4,.u q5,.v q6,.v q7,.v q8]:=fun j u hu=>by
  have h1:=HW.out.2.2 w4 JS.out (2+j) u (by rw[Nat.add_comm];exact hu);rw[Nat.zero_add] at h1;exact h1
 have Ke:=cE hrs;have eY:Hid (cH 44 9):=cE cK;have hnp:=Tk w4 H4.out.pN _ d (Kf.out.1.below (HW.out.2.1.trans (JS.out.mono HW.out.2.1.size))) Kf.out.2.1 (by have:=Kf.out.2.2;simp only[aa,dw];omega);unfold Raw.val Raw.cells eL.cells at hnp;dsimp only at hnp;have HNP:=cE hnp;clear hrs hnp;go_wp2_with (refine aA rfl 44 (.tmp 17) rfl w.heap.size 2 rfl [.slice da dn dc,.u q1,.u q2,.u q3,.i q4,.u q5,.v q6,.v q7,.v q8] _ Ke.out underlying44 rfl eY.out ?_)
 refine HNP.out.mono ?_;rintro e w5 ⟨a5,n5,c5,rfl,P5⟩;have H5:=cE (P5.trans H4.out.bl);clear P5;go_wp2
 go_ret
 exact⟨a5,n5,c5,rfl,H5.out.cast (by unfold wU nk;simp[af])⟩
structure yN(w:aC)(a:Option Addr)(n:Nat)(L:List cZ)(E:List gh):Prop where
 len:n=E.length
 like:eV w (fun _=>True) L E
 at_:gC w w.heap.size a L
 num:∀e∈E,tY e.node.num
theorem yN.below{w w':aC}{a:Option Addr}{n:Nat}{L:List cZ}{E:List gh}(h:yN w a n L E)(hb:cF w w'):yN w' a n L E:=⟨h.len,h.like.below hb,(h.at_.below hb).mono hb.size,h.num⟩
def wS(E:List gh):cP:=dI 8 E.length++E.flatMap wU
def lu(E:List gh):Nat:=(E.map fun e=>66+e.path.length+e.node.data.length).sum
theorem yy(E:List gh)(k:Nat):((E.take k).flatMap wU).length≤lu E:=by
 refine Nat.le_trans (jM wU E k) ?_;unfold lu
 induction E with
 |nil=>exact ag _
 |cons e E ih=>
  rw[List.flatMap_cons,aa,au,aq];have:=UX e;omega
theorem Jl{E:List gh}{e:gh}(h:e∈E):66+e.path.length+e.node.data.length≤lu E:=by
 unfold lu
 induction E with
 |nil=>cases h
 |cons x E ih=>
  rw[au,aq];rcases List.mem_cons.1 h with rfl|h
  ·omega
  have:=ih h;omega
theorem EV(E:List gh):(wS E).length≤8+lu E:=by
 unfold wS;rw[aa,dw];have:=yy E E.length;rw[aB (ag _)] at this;omega
theorem Jm(E:List gh):E.length≤lu E:=by
 unfold lu
 induction E with
 |nil=>exact ag _
 |cons e E ih=>rw[au,aq,List.length_cons];omega
theorem Qi(w:aC){ao:Option Addr}{nb c:Nat}{B:cP}(hB:BytesIn w ao nb c B){so:Option Addr}{sn sc:Nat}{L:List cZ}{E:List gh}(hE:yN w so sn L E)(hl:B.length+lu E≤250000000):
  Calls prog 196 #[.slice ao nb c,.slice so sn sc,.func (.func 197) #[] #[]] w (eU w (B++wS E)):=by
 have C8:sn≤250000000:=by have:=Jm E;have:=hE.len;omega
 have HU:=cE (iT w hB cL sn cL);have HV:=cE (cD hE hl);clear hB hE hl;go_enter func196,ntmps196
 go_wp2_with fail
 refine HU.out.mono ?_;rintro e w1 ⟨a1,n1,c1,rfl,h1⟩;have H1:=cE h1;clear h1;go_wp2
 go_loopw [0,16] (fun bv kv wr=>∃(k:Nat) (a:Option Addr) (n c:Nat),k≤sn∧kv=.i k∧bv=.slice a n c∧Hid (iF w (B++dI 8 sn++(E.take k).flatMap wU) a n c wr)) (fun _ kv _=>sn - (intOf kv).toNat)
 case atStart=>exact⟨0,a1,n1,c1,by omega,rfl,rfl,cE (by simpa using H1.out)⟩
 obtain⟨k,a,n,c,hk,rfl,rfl,HS⟩:=hrel;by_cases hlt:k<sn
 ·obtain⟨x,hx⟩:∃x,E[k]?=some x:=⟨_,ay (by rw[←HV.out.1.len];exact hlt)⟩
  obtain⟨r,hr⟩:∃r,L[k]?=some r:=⟨_,ay (by rw[HV.out.1.like.1,←HV.out.1.len];exact hlt)⟩;obtain⟨b,off,hso,hb,eW⟩:=HV.out.1.at_ k r hr;subst hso;have hrd:=HV.out.1.like.2 k r x hr hx;have hmem:=List.mem_of_getElem? hx;have hrw:=dA eW HS.out.bl hb;have hlen:(B++dI 8 sn++(E.take k).flatMap wU).length+x.path.length+x.node.data.length≤600000000:=by
   have h1:=HV.out.2;have h2:=yy E k;have h3:=Jl hmem;have h4:((E.take (k+1)).flatMap wU).length≤lu E:=yy E (k+1);simp only[aa,dw];omega
  obtain⟨rp,rg,⟨da,dn,dc,⟨q1,q2,q3,q4,q5,q6,q7,q8⟩⟩⟩:=r;unfold cZ.cells Raw.cells eL.cells at hrw;dsimp only[ah,aj] at hrw;have mX:=cE hrw;obtain⟨w2,eS,dz,hs2,hr2⟩:=dO wr [.s rp,.bool rg,.slice da dn dc,.u q1,.u q2,.u q3,.i q4,.u q5,.v q6,.v q7,.v q8] 93;have uE:=Mn w2 (HS.out.pN.below dz) _ x (hrd.below (HS.out.bl.trans (dz.mono HS.out.bl.size))) (HV.out.1.num x hmem) hlen;unfold cZ.val cZ.cells Raw.cells eL.cells at uE;dsimp only[ah,aj] at uE;have RI:=cE uE;have GD:=cE (cD (hr2 w2 (Below.refl _ _)) (cD dz eS));have eY:Hid (cH 93 11):=cE cK;have HXK:=cE hx;clear eW hb hrd hmem hrw hlen uE eS dz hr2 hs2 hx hr;go_wp2_with (first
   |(refine aA rfl 93 (.tmp 18) rfl b (off+k*11) rfl [.s rp,.bool rg,.slice da dn dc,.u q1,.u q2,.u q3,.i q4,.u q5,.v q6,.v q7,.v q8] _ mX.out underlying93 rfl eY.out ?_)
   |(rw[←GD.out.2.2];refine aA rfl 93 (.tmp 8) rfl wr.heap.size 0 rfl [.s rp,.bool rg,.slice da dn dc,.u q1,.u q2,.u q3,.i q4,.u q5,.v q6,.v q7,.v q8] _ GD.out.1 underlying93 rfl eY.out ?_))
  refine RI.out.mono ?_;rintro e w3 ⟨a3,n3,c3,rfl,h1⟩;have H3:Hid (iF w (B++dI 8 sn++(E.take (k+1)).flatMap wU) a3 n3 c3 w3):=cE (((h1.trans GD.out.2.1).trans HS.out.bl).cast (by rw[jm _ HXK.out,af]));clear h1;go_wp2
  go_roundw
  case rel=>exact⟨k+1,a3,n3,c3,by omega,by go_num,rfl,H3⟩
  case measure=>simp[intOf];omega
 obtain rfl:sn=k:=by omega
 have t1:decide ((sn:Int)<(sn:Int))=false:=by simp
 have t2:decide (sn<sn)=false:=by simp
 clear hlt hk;go_wp2
 go_ret
 exact⟨a,n,c,rfl,HS.out.cast (by rw[aB (by rw[←HV.out.1.len];exact ag _),af];unfold wS;rw[←HV.out.1.len])⟩
structure gK where
 ew:Int
 seq:Nat
 dK:Int
 ep:Nat
 stamp:List Nat
 dB:List gh
 cl:Nat
structure dS where
 sa:Option Addr
 sc:Nat
 ea:Option Addr
 ec:Nat
def cT(x:gK)(r:dS):List Value:=[.i x.ew,.v (x.seq:Int),.i x.dK,.v (x.ep:Int),.slice r.sa x.stamp.length r.sc,.slice r.ea x.dB.length r.ec,.u (x.cl:Int)]
def eN(x:gK)(r:dS):Value:=.agg (cT x r).toArray
structure uT(w:aC)(r:dS)(L:List cZ)(x:gK):Prop where
 stamp:mP w r.sa x.stamp.length x.stamp
 dB:yN w r.ea x.dB.length L x.dB
 seq:x.seq<18446744073709551616
 ep:x.ep<18446744073709551616
 cl:x.cl<4294967296
theorem uT.below{w w':aC}{r:dS}{L:List cZ}{x:gK}(h:uT w r L x)(hb:cF w w'):uT w' r L x:=⟨h.stamp.below hb,h.dB.below hb,h.seq,h.ep,h.cl⟩
def nK(x:gK):cP:=dI 1 (x.ew % 256).toNat++dI 8 x.seq++(dI 8 (oN x.dK)++dI 8 x.ep++iK x.stamp)++(wS x.dB++dI 8 x.cl)
def jY(x:gK):Nat:=8*x.stamp.length+lu x.dB
theorem I5(w:aC){ao:Option Addr}{nb c:Nat}{B:cP}(hB:BytesIn w ao nb c B)(r:dS)(L:List cZ)(x:gK)(hx:uT w r L x)(hl:B.length+jY x≤200000000):
  Calls prog 98 #[.slice ao nb c,eN x r] w (eU w (B++nK x)):=by
 obtain⟨sa,sc,ea,ec⟩:=r;obtain⟨ew,seq,dK,ep,V,E,cl⟩:=x;obtain⟨hst,EG,LS,uE,hcl⟩:=hx;unfold jY at hl;dsimp only at hst EG LS uE hcl hl;obtain⟨v,hv,qx,EB⟩:=FQ ew;have HSB:Hid (nK ⟨ew,seq,dK,ep,V,E,cl⟩=dI 1 v++dI 8 seq++(dI 8 (oN dK)++dI 8 ep++iK V)++(wS E++dI 8 cl)):=cE (by unfold nK;rw[EB]);rw[HSB.out];have tk:∀_:True,IntKind.u8.wrap ew=(v:Int):=fun _=>(wrap_u8 ew).trans hv
 have tm:∀_:True,IntKind.u64.wrap (cl:Int)=(cl:Int):=fun _=>qR cL
 unfold eN cT;dsimp only;have hvl:=hst.len;have hel:=EG.len;obtain⟨vn,hvn⟩:=cG V.length;obtain⟨en,BO⟩:=cG E.length;rw[←hvn] at hst hl⊢;rw[←BO] at EG⊢;have HVN:=cE (cD hvn BO);clear hvl hel hvn BO hv EB;obtain⟨w1,hw1,de,hs1,eW⟩:=dO w [.i ew,.v (seq:Int),.i dK,.v (ep:Int),.slice sa vn sc,.slice ea en ec,.u (cl:Int)] 40;have y0:∀w',cF w1 w'→w'.cell? ⟨w.heap.size,0,none⟩=some (.i ew):=fun w' h=>eW w' h 0 _ rfl
 have y1:∀w',cF w1 w'→w'.cell? ⟨w.heap.size,1,none⟩=some (.v (seq:Int)):=fun w' h=>eW w' h 1 _ rfl
 have y2:∀w',cF w1 w'→w'.cell? ⟨w.heap.size,2,none⟩=some (.i dK):=fun w' h=>eW w' h 2 _ rfl
 have y3:∀w',cF w1 w'→w'.cell? ⟨w.heap.size,3,none⟩=some (.v (ep:Int)):=fun w' h=>eW w' h 3 _ rfl
 have y4:∀w',cF w1 w'→w'.cell? ⟨w.heap.size,4,none⟩=some (.slice sa vn sc):=fun w' h=>eW w' h 4 _ rfl
 have y5:∀w',cF w1 w'→w'.cell? ⟨w.heap.size,5,none⟩=some (.slice ea en ec):=fun w' h=>eW w' h 5 _ rfl
 have y6:∀w',cF w1 w'→w'.cell? ⟨w.heap.size,6,none⟩=some (.u (cl:Int)):=fun w' h=>eW w' h 6 _ rfl
 have Az:=cE fun W (h:cF w1 W)=>hB.below (de.trans (h.mono de.size))
 have HD:=cE (cD (fun W (h:cF w1 W)=>hst.below (de.trans (h.mono de.size))) (fun W (h:cF w1 W)=>EG.below (de.trans (h.mono de.size))));have HK:=cE (cD LS (cD uE (cD hcl (cD qx hl))));have HW:=cE (cD hw1 de);clear hB hw1 eW hst EG LS uE hcl hl de qx;go_enter func98,ntmps98
 go_wp2_with fail
 rw[←HW.out.1];refine rB fun wd hS=>?_
 refine tI 0 rfl hS ?_;refine tI 1 rfl hS ?_;refine tJ 2 rfl hS y0 ?_;refine tI 3 rfl hS ?_;simp only[cQ];refine tI 5 rfl hS ?_;refine tJ 6 rfl hS y1 ?_;simp only[cQ];refine cI 4 rfl ?_;refine(nQ wd (Az.out wd hS) (by have:=HK.out.2.2.2.2;omega) v HK.out.2.2.2.1).mono ?_;rintro e w2 ⟨a2,n2,c2,rfl,P2⟩;have oW:=hS.trans (P2.bl.mono hS.size);refine⟨oW,?_⟩;simp only[cQ];refine cI 7 rfl ?_;refine(iT w2 P2.pN (by have:=HK.out.2.2.2.2;simp only[aa,dw];omega) seq HK.out.1).mono ?_;rintro e w3 ⟨a3,n3,c3,rfl,P3⟩;have dU:=oW.trans (P3.bl.mono oW.size);refine⟨dU,?_⟩;simp only[cQ];refine tI 8 rfl dU ?_;simp only[cQ];refine an cK ?_ _;have P3':=P3.trans (hS.trans (P2.bl.mono hS.size));have H3:=cE (cD P3' dU);clear P2 P3 P3' hS oW dU;go_wp2_with fail
 refine rC H3.out.2 fun wd hS hd=>?_
 refine tI 0 rfl hS ?_;refine tI 1 rfl hS ?_;refine tJ 2 rfl hS y2 ?_;refine tI 4 rfl hS ?_;simp only[cQ];refine tJ 5 rfl hS y3 ?_;refine tI 7 rfl hS ?_;refine tJ 8 rfl hS y4 ?_;simp only[cQ];refine cI 3 rfl ?_;refine(wE wd (H3.out.1.pN.below hd) (by have:=HK.out.2.2.2.2;simp only[aa,dw];omega) dK).mono ?_;rintro e w4 ⟨a4,n4,c4,rfl,P4⟩;have eM:=hS.trans (P4.bl.mono hS.size);refine⟨eM,?_⟩;simp only[cQ];refine cI 6 rfl ?_;refine(iT w4 P4.pN (by have:=HK.out.2.2.2.2;simp only[aa,dw];omega) ep HK.out.2.1).mono ?_;rintro e w5 ⟨a5,n5,c5,rfl,P5⟩;have oP:=eM.trans (P5.bl.mono eM.size);refine⟨oP,?_⟩;simp only[cQ];refine cI 9 rfl ?_;refine(xN w5 P5.pN (HD.out.1 w5 oP) (by have:=HK.out.2.2.2.2;have:=HVN.out.1;simp only[aa,dw,jd];omega)).mono ?_;rintro e w6 ⟨a6,n6,c6,rfl,P6⟩;have uH:=oP.trans (P6.bl.mono oP.size);refine⟨uH,?_⟩;simp only[cQ];refine tI 10 rfl uH ?_;simp only[cQ];refine an cK ?_ _;have P6':=P6.trans oP;have H6:=cE (cD P6' uH);clear P4 P5 P6 P6' hS eM oP uH hd;go_wp2_with fail
 refine rC H6.out.2 fun wd hS hd=>?_
 refine tI 0 rfl hS ?_;refine tI 1 rfl hS ?_;refine tJ 2 rfl hS y5 ?_;refine tI 4 rfl hS ?_;simp only[cQ];refine tJ 5 rfl hS y6 ?_;refine tI 6 rfl hS ?_;simp only[cQ];refine cI 3 rfl ?_;refine(Qi wd (H6.out.1.pN.below hd) (HD.out.2 wd hS) (by have:=HK.out.2.2.2.2;have:=HVN.out.1;simp only[aa,dw,jd];omega)).mono ?_;rintro e w7 ⟨a7,n7,c7,rfl,P7⟩;have BU:=hS.trans (P7.bl.mono hS.size);refine⟨BU,?_⟩;simp only[cQ];refine cI 7 rfl ?_;refine(iT w7 P7.pN (by have:=HK.out.2.2.2.2;have:=HVN.out.1;have:=EV E;simp only[aa,dw,jd];omega) cl (by have:=HK.out.2.2.1;omega)).mono ?_;rintro e w8 ⟨a8,n8,c8,rfl,P8⟩;have jL:=BU.trans (P8.bl.mono BU.size);refine⟨jL,?_⟩;simp only[cQ];refine tI 8 rfl jL ?_;simp only[cQ];refine an cK ?_ _;have P8':=(P8.trans BU).trans HW.out.2;have H8:=cE P8';clear P7 P8 P8' hS BU jL hd;go_wp2
 go_ret
 exact⟨a8,n8,c8,rfl,H8.out.cast (by simp[af])⟩
end
