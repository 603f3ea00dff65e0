/- Part 23. -/
import Derived.Test.YtdpaejbaoefdjaaGreatDoorG18
import Derived.Test.YtdpaejbaoefdjaaGreatDoorG22
open List renaming length_append → aa,append_assoc → af,cons_append → ah,nil_append → aj,sum_cons → aq,map_cons → au,getElem?_eq_getElem → ay,take_of_length_le → aB
open Nat renaming le_refl → ag
open Go renaming wpAnyH_done → an,wpList_load_mid → aA,World → aC
open Go.Lib renaming bytesWorld_size → aD
namespace Go.Proofs.YtdpaejbaoefdjaaGreatDoor
open Go.Proofs.Tryz
set_option maxRecDepth 100000
set_option maxHeartbeats 64000000
set_option linter.unusedVariables false
set_option linter.unusedSimpArgs false
section
open Go.RowKit Go.Shelf Go.MapKept Go.ChangeMaps
theorem BB(w:aC)(p:cO):∃c w1,(convert 9 32 (.s p)).run prog w=.ok (.slice (some ⟨w.heap.size,0,none⟩) p.length c) w1∧iJ w p (some ⟨w.heap.size,0,none⟩) p.length c w1:=by
 have h:=Lib.run_convert_string_bytes w 9 32 5 (bs p) underlying9 underlying32 underlying5;rw[fL] at h;refine⟨_,_,h,rfl,⟨fun j x hj=>⟨w.heap.size,0,rfl,ag _,by rw[aD];omega,?_⟩,fun e=>by cases e⟩,?_⟩
 ·have hjl:=(List.getElem?_eq_some_iff.1 hj).1
  rw[Nat.zero_add,Lib.bytesWorld_cell w 5 (bs p) j (by rw[fL];exact hjl),gU];rw[List.getD_eq_getElem?_getD,hj];rfl
 refine⟨rfl,rfl,rfl,by rw[aD];omega,fun k hk=>Lib.bytesWorld_at_old w 5 (bs p) k hk⟩
def mc(e:gm):cO:=kq e.cW++dw 1 (nL e.gone)++(if e.gone=true then [] else pg e.node)
theorem xj(s n:Int):(iO s n).length=9:=by unfold iO;rw[aa,dD,dD]
theorem wY(D:cO):(kq D).length=4+D.length:=by unfold kq;rw[aa,dD]
theorem Oq(d:Nd):(pg d).length=61+d.data.length:=by
 unfold pg;simp only[aa,dD,xj,wY];omega
theorem Ts(e:gm):(mc e).length≤66+e.cW.length+e.node.data.length:=by
 unfold mc;rw[aa,aa,wY,dD];split
 ·simp
  omega
 rw[Oq];omega
theorem KZ(w:aC){ao:Option Addr}{nb c:Nat}{B:cO}(hB:BytesIn w ao nb c B)(r:dr)(x:gm){lo:Nat→Prop}(hr:kU w lo r x)(hn:tH x.node.num)(hl:B.length+x.cW.length+x.node.data.length≤600000000):
  Calls prog 197 #[.slice ao nb c,r.val] w (fe w (B++mc x)):=by
 obtain⟨rp,rg,⟨da,dn,dc,⟨q1,q2,q3,q4,q5,q6,q7,q8⟩⟩⟩:=r;obtain⟨p,g,d⟩:=x;obtain⟨h1,h2,h3⟩:=hr;dsimp only at h1 h2 h3 hn hl;subst h1 h2;unfold dr.val dr.cells Raw.cells eU.cells;dsimp only[ah,aj];obtain⟨w1,hw1,dB,hs1,fS⟩:=dX w [.s rp,.bool rg,.slice da dn dc,.u q1,.u q2,.u q3,.i q4,.u q5,.v q6,.v q7,.v q8] 93;have y0:∀w',cE w1 w'→w'.cell? ⟨w.heap.size,0,none⟩=some (.s rp):=fun w' h=>fS w' h 0 _ rfl
 have y1:∀w',cE w1 w'→w'.cell? ⟨w.heap.size,1,none⟩=some (.bool rg):=fun w' h=>fS w' h 1 _ rfl
 have zQ:=cD fun W (h:cE w1 W)=>hB.below (dB.trans (h.mono dB.size))
 have Jn:=cD (cC h3 (cC hn hl));have HW:=cD (cC hw1 (cC dB fS));clear hB hw1 fS h3 hn hl dB;go_enter func197,ntmps197
 go_wp2_with fail
 rw[←HW.out.1];refine rB fun wd hS=>?_
 refine tI 0 rfl hS ?_;refine tI 1 rfl hS ?_;refine tJ 2 rfl hS y0 ?_;refine tI 5 rfl hS ?_;simp only[cR];refine tJ 6 rfl hS y1 ?_;simp only[cR];obtain⟨cc,w2,hcv,hps⟩:=BB wd rp;have oR:=hS.trans (hps.bl.mono hS.size);have HTX:=cD (oV w2 (zQ.out w2 oR) (by have:=Jn.out.2.2;omega) hps.pH (by have:=Jn.out.2.2;omega));refine gI 3 rfl _ w2 oR ?_;clear hcv hps;simp only[cR];refine cI 4 rfl ?_;refine HTX.out.mono ?_;rintro e w3 ⟨a3,n3,c3,rfl,P3⟩;have ek:=oR.trans (P3.bl.mono oR.size);refine⟨ek,?_⟩;simp only[cR];refine cI 7 rfl ?_;refine(rF w3 P3.pH (by have:=Jn.out.2.2;simp only[aa,dD];omega) rg).mono ?_;rintro e w4 ⟨a4,n4,c4,rfl,P4⟩;have eV:=ek.trans (P4.bl.mono ek.size);refine⟨eV,?_⟩;simp only[cR];refine tI 8 rfl eV ?_;simp only[cR];refine an cJ ?_ _;have H4:=cD (((P4.trans P3.bl).trans oR).trans HW.out.2.1);have FK:=cD eV;clear P3 P4 hS oR ek eV;have k1:=y1 w4 FK.out;clear y0 y1;cases rg with
 |true=>
  go_wp2
  go_ret
  exact⟨a4,n4,c4,rfl,H4.out.cast (by unfold mc kq;simp[af])⟩
 |false=>
 have hrs:w4.rangeAt w.heap.size 2 [.slice da dn dc,.u q1,.u q2,.u q3,.i q4,.u q5,.v q6,.v q7,.v q8]:=fun j u hu=>by
  have h1:=HW.out.2.2 w4 FK.out (2+j) u (by rw[Nat.add_comm];exact hu);rw[Nat.zero_add] at h1;exact h1
 have Jm:=cD hrs;have fm:Hid (cG 44 9):=cD cJ;have hnp:=RF w4 H4.out.pH _ d (Jn.out.1.below (HW.out.2.1.trans (FK.out.mono HW.out.2.1.size))) Jn.out.2.1 (by have:=Jn.out.2.2;simp only[aa,dD];omega);unfold Raw.val Raw.cells eU.cells at hnp;dsimp only at hnp;have HNP:=cD hnp;clear hrs hnp;go_wp2_with (refine aA rfl 44 (.tmp 17) rfl w.heap.size 2 rfl [.slice da dn dc,.u q1,.u q2,.u q3,.i q4,.u q5,.v q6,.v q7,.v q8] _ Jm.out underlying44 rfl fm.out ?_)
 refine HNP.out.mono ?_;rintro e w5 ⟨a5,n5,c5,rfl,P5⟩;have H5:=cD (P5.trans H4.out.bl);clear P5;go_wp2
 go_ret
 exact⟨a5,n5,c5,rfl,H5.out.cast (by unfold mc kq;simp[af])⟩
structure ye(w:aC)(a:Option Addr)(n:Nat)(L:List dr)(E:List gm):Prop where
 len:n=E.length
 like:ff w (fun _=>True) L E
 cS:gH w w.heap.size a L
 num:∀e∈E,tH e.node.num
theorem ye.below{w w':aC}{a:Option Addr}{n:Nat}{L:List dr}{E:List gm}(h:ye w a n L E)(hb:cE w w'):ye w' a n L E:=⟨h.len,h.like.below hb,(h.cS.below hb).mono hb.size,h.num⟩
def tD(E:List gm):cO:=dw 8 E.length++E.flatMap mc
def jG(E:List gm):Nat:=(E.map fun e=>66+e.cW.length+e.node.data.length).sum
theorem xN(E:List gm)(k:Nat):((E.take k).flatMap mc).length≤jG E:=by
 refine Nat.le_trans (jQ mc E k) ?_;unfold jG
 induction E with
 |nil=>exact ag _
 |cons e E ih=>
  rw[List.flatMap_cons,aa,au,aq];have:=Ts e;omega
theorem Iu{E:List gm}{e:gm}(h:e∈E):66+e.cW.length+e.node.data.length≤jG E:=by
 unfold jG
 induction E with
 |nil=>cases h
 |cons x E ih=>
  rw[au,aq];rcases List.mem_cons.1 h with rfl|h
  ·omega
  have:=ih h;omega
theorem DT(E:List gm):(tD E).length≤8+jG E:=by
 unfold tD;rw[aa,dD];have:=xN E E.length;rw[aB (ag _)] at this;omega
theorem Iv(E:List gm):E.length≤jG E:=by
 unfold jG
 induction E with
 |nil=>exact ag _
 |cons e E ih=>rw[au,aq,List.length_cons];omega
theorem OM(w:aC){ao:Option Addr}{nb c:Nat}{B:cO}(hB:BytesIn w ao nb c B){so:Option Addr}{sn sc:Nat}{L:List dr}{E:List gm}(hE:ye w so sn L E)(hl:B.length+jG E≤250000000):
  Calls prog 196 #[.slice ao nb c,.slice so sn sc,.func (.func 197) #[] #[]] w (fe w (B++tD E)):=by
 have FQ:sn≤250000000:=by have:=Iv E;have:=hE.len;omega
 have HU:=cD (iW w hB cK sn cK);have HV:=cD (cC hE hl);clear hB hE hl;go_enter func196,ntmps196
 go_wp2_with fail
 refine HU.out.mono ?_;rintro e w1 ⟨a1,n1,c1,rfl,h1⟩;have H1:=cD h1;clear h1;go_wp2
 go_loopw [0,16] (fun bv kv wr=>∃(k:Nat) (a:Option Addr) (n c:Nat),k≤sn∧kv=.i k∧bv=.slice a n c∧Hid (iJ w (B++dw 8 sn++(E.take k).flatMap mc) a n c wr)) (fun _ kv _=>sn - (intOf kv).toNat)
 case atStart=>exact⟨0,a1,n1,c1,by omega,rfl,rfl,cD (by simpa using H1.out)⟩
 obtain⟨k,a,n,c,hk,rfl,rfl,HS⟩:=hrel;by_cases hlt:k<sn
 ·obtain⟨x,hx⟩:∃x,E[k]?=some x:=⟨_,ay (by rw[←HV.out.1.len];exact hlt)⟩
  obtain⟨r,hr⟩:∃r,L[k]?=some r:=⟨_,ay (by rw[HV.out.1.like.1,←HV.out.1.len];exact hlt)⟩;obtain⟨b,off,hso,hb,fS⟩:=HV.out.1.cS k r hr;subst hso;have hrd:=HV.out.1.like.2 k r x hr hx;have hmem:=List.mem_of_getElem? hx;have hrw:=dR fS HS.out.bl hb;have hlen:(B++dw 8 sn++(E.take k).flatMap mc).length+x.cW.length+x.node.data.length≤600000000:=by
   have h1:=HV.out.2;have h2:=xN E k;have h3:=Iu hmem;have h4:((E.take (k+1)).flatMap mc).length≤jG E:=xN E (k+1);simp only[aa,dD];omega
  obtain⟨rp,rg,⟨da,dn,dc,⟨q1,q2,q3,q4,q5,q6,q7,q8⟩⟩⟩:=r;unfold dr.cells Raw.cells eU.cells at hrw;dsimp only[ah,aj] at hrw;have nT:=cD hrw;obtain⟨w2,fH,dI,hs2,hr2⟩:=dX wr [.s rp,.bool rg,.slice da dn dc,.u q1,.u q2,.u q3,.i q4,.u q5,.v q6,.v q7,.v q8] 93;have sO:=KZ w2 (HS.out.pH.below dI) _ x (hrd.below (HS.out.bl.trans (dI.mono HS.out.bl.size))) (HV.out.1.num x hmem) hlen;unfold dr.val dr.cells Raw.cells eU.cells at sO;dsimp only[ah,aj] at sO;have Qi:=cD sO;have FI:=cD (cC (hr2 w2 (Below.refl _ _)) (cC dI fH));have fm:Hid (cG 93 11):=cD cJ;have HXK:=cD hx;clear fS hb hrd hmem hrw hlen sO fH dI hr2 hs2 hx hr;go_wp2_with (first
   |(refine aA rfl 93 (.tmp 18) rfl b (off+k*11) rfl [.s rp,.bool rg,.slice da dn dc,.u q1,.u q2,.u q3,.i q4,.u q5,.v q6,.v q7,.v q8] _ nT.out underlying93 rfl fm.out ?_)
   |(rw[←FI.out.2.2];refine aA rfl 93 (.tmp 8) rfl wr.heap.size 0 rfl [.s rp,.bool rg,.slice da dn dc,.u q1,.u q2,.u q3,.i q4,.u q5,.v q6,.v q7,.v q8] _ FI.out.1 underlying93 rfl fm.out ?_))
  refine Qi.out.mono ?_;rintro e w3 ⟨a3,n3,c3,rfl,h1⟩;have H3:Hid (iJ w (B++dw 8 sn++(E.take (k+1)).flatMap mc) a3 n3 c3 w3):=cD (((h1.trans FI.out.2.1).trans HS.out.bl).cast (by rw[ju _ HXK.out,af]));clear h1;go_wp2
  go_roundw
  case rel=>exact⟨k+1,a3,n3,c3,by omega,by go_num,rfl,H3⟩
  case measure=>simp[intOf];omega
 obtain rfl:sn=k:=by omega
 have t1:decide ((sn:Int)<(sn:Int))=false:=by simp
 have t2:decide (sn<sn)=false:=by simp
 clear hlt hk;go_wp2
 go_ret
 exact⟨a,n,c,rfl,HS.out.cast (by rw[aB (by rw[←HV.out.1.len];exact ag _),af];unfold tD;rw[←HV.out.1.len])⟩
structure fW where
 ew:Int
 seq:Nat
 dO:Int
 ep:Nat
 de:List Nat
 dF:List gm
 cl:Nat
structure ei where
 sa:Option Addr
 sc:Nat
 ea:Option Addr
 ec:Nat
def cU(x:fW)(r:ei):List Value:=[.i x.ew,.v (x.seq:Int),.i x.dO,.v (x.ep:Int),.slice r.sa x.de.length r.sc,.slice r.ea x.dF.length r.ec,.u (x.cl:Int)]
def eW(x:fW)(r:ei):Value:=.agg (cU x r).toArray
structure uy(w:aC)(r:ei)(L:List dr)(x:fW):Prop where
 de:mP w r.sa x.de.length x.de
 dF:ye w r.ea x.dF.length L x.dF
 seq:x.seq<18446744073709551616
 ep:x.ep<18446744073709551616
 cl:x.cl<4294967296
theorem uy.below{w w':aC}{r:ei}{L:List dr}{x:fW}(h:uy w r L x)(hb:cE w w'):uy w' r L x:=⟨h.de.below hb,h.dF.below hb,h.seq,h.ep,h.cl⟩
def jl(x:fW):cO:=dw 1 (x.ew % 256).toNat++dw 8 x.seq++(dw 8 (lu x.dO)++dw 8 x.ep++gw x.de)++(tD x.dF++dw 8 x.cl)
def kF(x:fW):Nat:=8*x.de.length+jG x.dF
theorem Hu(w:aC){ao:Option Addr}{nb c:Nat}{B:cO}(hB:BytesIn w ao nb c B)(r:ei)(L:List dr)(x:fW)(hx:uy w r L x)(hl:B.length+kF x≤200000000):
  Calls prog 98 #[.slice ao nb c,eW x r] w (fe w (B++jl x)):=by
 obtain⟨sa,sc,ea,ec⟩:=r;obtain⟨ew,seq,dO,ep,V,E,cl⟩:=x;obtain⟨hst,DH,Kv,sO,hcl⟩:=hx;unfold kF at hl;dsimp only at hst DH Kv sO hcl hl;obtain⟨v,hv,qg,Dz⟩:=ES ew;have HSB:Hid (jl ⟨ew,seq,dO,ep,V,E,cl⟩=dw 1 v++dw 8 seq++(dw 8 (lu dO)++dw 8 ep++gw V)++(tD E++dw 8 cl)):=cD (by unfold jl;rw[Dz]);rw[HSB.out];have tk:∀_:True,IntKind.u8.wrap ew=(v:Int):=fun _=>(wrap_u8 ew).trans hv
 have tm:∀_:True,IntKind.u64.wrap (cl:Int)=(cl:Int):=fun _=>qM cK
 unfold eW cU;dsimp only;have hvl:=hst.len;have hel:=DH.len;obtain⟨vn,hvn⟩:=cF V.length;obtain⟨en,DG⟩:=cF E.length;rw[←hvn] at hst hl⊢;rw[←DG] at DH⊢;have HVN:=cD (cC hvn DG);clear hvl hel hvn DG hv Dz;obtain⟨w1,hw1,dB,hs1,fS⟩:=dX w [.i ew,.v (seq:Int),.i dO,.v (ep:Int),.slice sa vn sc,.slice ea en ec,.u (cl:Int)] 40;have y0:∀w',cE w1 w'→w'.cell? ⟨w.heap.size,0,none⟩=some (.i ew):=fun w' h=>fS w' h 0 _ rfl
 have y1:∀w',cE w1 w'→w'.cell? ⟨w.heap.size,1,none⟩=some (.v (seq:Int)):=fun w' h=>fS w' h 1 _ rfl
 have y2:∀w',cE w1 w'→w'.cell? ⟨w.heap.size,2,none⟩=some (.i dO):=fun w' h=>fS w' h 2 _ rfl
 have y3:∀w',cE w1 w'→w'.cell? ⟨w.heap.size,3,none⟩=some (.v (ep:Int)):=fun w' h=>fS w' h 3 _ rfl
 have y4:∀w',cE w1 w'→w'.cell? ⟨w.heap.size,4,none⟩=some (.slice sa vn sc):=fun w' h=>fS w' h 4 _ rfl
 have y5:∀w',cE w1 w'→w'.cell? ⟨w.heap.size,5,none⟩=some (.slice ea en ec):=fun w' h=>fS w' h 5 _ rfl
 have y6:∀w',cE w1 w'→w'.cell? ⟨w.heap.size,6,none⟩=some (.u (cl:Int)):=fun w' h=>fS w' h 6 _ rfl
 have zQ:=cD fun W (h:cE w1 W)=>hB.below (dB.trans (h.mono dB.size))
 have HD:=cD (cC (fun W (h:cE w1 W)=>hst.below (dB.trans (h.mono dB.size))) (fun W (h:cE w1 W)=>DH.below (dB.trans (h.mono dB.size))));have HK:=cD (cC Kv (cC sO (cC hcl (cC qg hl))));have HW:=cD (cC hw1 dB);clear hB hw1 fS hst DH Kv sO hcl hl dB qg;go_enter func98,ntmps98
 go_wp2_with fail
 rw[←HW.out.1];refine rB fun wd hS=>?_
 refine tI 0 rfl hS ?_;refine tI 1 rfl hS ?_;refine tJ 2 rfl hS y0 ?_;refine tI 3 rfl hS ?_;simp only[cR];refine tI 5 rfl hS ?_;refine tJ 6 rfl hS y1 ?_;simp only[cR];refine cI 4 rfl ?_;refine(nN wd (zQ.out wd hS) (by have:=HK.out.2.2.2.2;omega) v HK.out.2.2.2.1).mono ?_;rintro e w2 ⟨a2,n2,c2,rfl,P2⟩;have oR:=hS.trans (P2.bl.mono hS.size);refine⟨oR,?_⟩;simp only[cR];refine cI 7 rfl ?_;refine(iW w2 P2.pH (by have:=HK.out.2.2.2.2;simp only[aa,dD];omega) seq HK.out.1).mono ?_;rintro e w3 ⟨a3,n3,c3,rfl,P3⟩;have ek:=oR.trans (P3.bl.mono oR.size);refine⟨ek,?_⟩;simp only[cR];refine tI 8 rfl ek ?_;simp only[cR];refine an cJ ?_ _;have P3':=P3.trans (hS.trans (P2.bl.mono hS.size));have H3:=cD (cC P3' ek);clear P2 P3 P3' hS oR ek;go_wp2_with fail
 refine rC H3.out.2 fun wd hS hd=>?_
 refine tI 0 rfl hS ?_;refine tI 1 rfl hS ?_;refine tJ 2 rfl hS y2 ?_;refine tI 4 rfl hS ?_;simp only[cR];refine tJ 5 rfl hS y3 ?_;refine tI 7 rfl hS ?_;refine tJ 8 rfl hS y4 ?_;simp only[cR];refine cI 3 rfl ?_;refine(vK wd (H3.out.1.pH.below hd) (by have:=HK.out.2.2.2.2;simp only[aa,dD];omega) dO).mono ?_;rintro e w4 ⟨a4,n4,c4,rfl,P4⟩;have eV:=hS.trans (P4.bl.mono hS.size);refine⟨eV,?_⟩;simp only[cR];refine cI 6 rfl ?_;refine(iW w4 P4.pH (by have:=HK.out.2.2.2.2;simp only[aa,dD];omega) ep HK.out.2.1).mono ?_;rintro e w5 ⟨a5,n5,c5,rfl,P5⟩;have oM:=eV.trans (P5.bl.mono eV.size);refine⟨oM,?_⟩;simp only[cR];refine cI 9 rfl ?_;refine(xh w5 P5.pH (HD.out.1 w5 oM) (by have:=HK.out.2.2.2.2;have:=HVN.out.1;simp only[aa,dD,jh];omega)).mono ?_;rintro e w6 ⟨a6,n6,c6,rfl,P6⟩;have uh:=oM.trans (P6.bl.mono oM.size);refine⟨uh,?_⟩;simp only[cR];refine tI 10 rfl uh ?_;simp only[cR];refine an cJ ?_ _;have P6':=P6.trans oM;have H6:=cD (cC P6' uh);clear P4 P5 P6 P6' hS eV oM uh hd;go_wp2_with fail
 refine rC H6.out.2 fun wd hS hd=>?_
 refine tI 0 rfl hS ?_;refine tI 1 rfl hS ?_;refine tJ 2 rfl hS y5 ?_;refine tI 4 rfl hS ?_;simp only[cR];refine tJ 5 rfl hS y6 ?_;refine tI 6 rfl hS ?_;simp only[cR];refine cI 3 rfl ?_;refine(OM wd (H6.out.1.pH.below hd) (HD.out.2 wd hS) (by have:=HK.out.2.2.2.2;have:=HVN.out.1;simp only[aa,dD,jh];omega)).mono ?_;rintro e w7 ⟨a7,n7,c7,rfl,P7⟩;have Bc:=hS.trans (P7.bl.mono hS.size);refine⟨Bc,?_⟩;simp only[cR];refine cI 7 rfl ?_;refine(iW w7 P7.pH (by have:=HK.out.2.2.2.2;have:=HVN.out.1;have:=DT E;simp only[aa,dD,jh];omega) cl (by have:=HK.out.2.2.1;omega)).mono ?_;rintro e w8 ⟨a8,n8,c8,rfl,P8⟩;have jP:=Bc.trans (P8.bl.mono Bc.size);refine⟨jP,?_⟩;simp only[cR];refine tI 8 rfl jP ?_;simp only[cR];refine an cJ ?_ _;have P8':=(P8.trans Bc).trans HW.out.2;have H8:=cD P8';clear P7 P8 P8' hS Bc jP hd;go_wp2
 go_ret
 exact⟨a8,n8,c8,rfl,H8.out.cast (by simp[af])⟩
end
