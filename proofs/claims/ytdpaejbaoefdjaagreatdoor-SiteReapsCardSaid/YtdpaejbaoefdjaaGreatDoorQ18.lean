/- Part 18. -/
import Derived.Test.YtdpaejbaoefdjaaGreatDoorQ17
import Derived.Lib.ConvBytes
open List renaming length_append → aa,take_of_length_le → af,append_assoc → ag
open Nat renaming zero_add → ah
open Go.RowKit.Below renaming refl → aj
open Go.RowKit renaming wrap64 → an
namespace Go.Proofs.YtdpaejbaoefdjaaGreatDoor
open Go.Proofs.Tryz
set_option maxRecDepth 100000
set_option maxHeartbeats 64000000
set_option linter.unusedVariables false
set_option linter.unusedSimpArgs false
section
open Go.RowKit Go.Shelf Go.MapKept Go.ChangeMaps
def kY(s n:Int):cP:=dI 1 (s % 256).toNat++dI 8 n.toNat
def zL(n:Int):Prop:=0≤n∧n<4294967296
theorem zL.nat{n:Int}(h:zL n):∃m:Nat,n=m∧m<4294967296:=⟨n.toNat,by have:=h.1;omega,by have:=h.1;have:=h.2;omega⟩
theorem FQ(s:Int):∃v:Nat,s % 256=v∧v<256∧(s % 256).toNat=v:=⟨(s % 256).toNat,by omega,by omega,rfl⟩
theorem wrap_u8(s:Int):IntKind.u8.wrap s=s % 256:=by simp[IntKind.wrap,IntKind.bits,IntKind.signed]
theorem qR{m:Nat}(h:m<18446744073709551616):IntKind.u64.wrap (m:Int)=(m:Int):=by rw[IntKind.wrap_u64];omega
theorem dO(w:World)(cs:List Value)(t:TypeId):∃w1,w1=w.alloc (.cells cs.toArray t)∧cF w w1∧w1.heap.size=w.heap.size+1∧(∀w',cF w1 w'→w'.rangeAt w.heap.size 0 cs):=by
 refine⟨_,rfl,cR (aj _ w) _,by simp,fun w' hb j u hu=>?_⟩;refine(hb.cell (p:=⟨w.heap.size,0+j,none⟩) cN).trans ?_;rw[ah,cell_of_row _ _ j _ t (0,0) (heap_alloc_new w _)];simpa using hu
theorem yQ(w:World){ao:Option Addr}{nb c:Nat}{B:cP}(hB:BytesIn w ao nb c B)(hl:B.length≤800000000)(s n:Int)(hn:zL n):
  Calls prog 128 #[.slice ao nb c,.agg #[.i s,.u n]] w (eU w (B++kY s n)):=by
 obtain⟨m,rfl,hm⟩:=hn.nat;obtain⟨v,hv,qx,EB⟩:=FQ s;have HSB:Hid (kY s (m:Int)=dI 1 v++dI 8 m):=cE (by unfold kY;rw[EB,Int.toNat_natCast]);rw[HSB.out];have tk:∀_:True,IntKind.u8.wrap s=(v:Int):=fun _=>(wrap_u8 s).trans hv
 have tm:∀_:True,IntKind.u64.wrap (m:Int)=(m:Int):=fun _=>qR cL
 obtain⟨w1,hw1,de,hs1,hr⟩:=dO w [.i s,.u (m:Int)] 31;have y0:∀w',cF w1 w'→w'.cell? ⟨w.heap.size,0,none⟩=some (.i s):=fun w' h=>hr w' h 0 _ rfl
 have y1:∀w',cF w1 w'→w'.cell? ⟨w.heap.size,1,none⟩=some (.u (m:Int)):=fun w' h=>hr w' h 1 _ rfl
 have HB:=cE fun W (h:cF w1 W)=>nQ W (hB.below (de.trans (h.mono de.size))) cL v qx
 have HU:=cE fun(W:World) (a:Option Addr) (n c:Nat) (h:BytesIn W a n c (B++dI 1 v))=>iT W h (by rw[aa,dw];omega) m cL
 have HW:=cE (cD hw1 de);clear hB hl hn hv qx EB hw1 hr;go_enter func128,ntmps128
 go_wp2_with fail
 rw[←HW.out.1];refine rB fun wd hS=>?_
 refine tI 0 rfl hS ?_;refine tI 1 rfl hS ?_;refine tJ 2 rfl hS y0 ?_;refine tI 3 rfl hS ?_;simp only[cQ];refine tI 5 rfl hS ?_;refine tJ 6 rfl hS y1 ?_;refine tI 7 rfl hS ?_;simp only[cQ];refine cI 4 rfl ?_;refine(HB.out _ hS).mono ?_;rintro e w2 ⟨a2,n2,c2,rfl,h2⟩;refine⟨hS.trans (h2.bl.mono hS.size),?_⟩;simp only[cQ];refine cI 8 rfl ?_;refine(HU.out _ a2 n2 c2 h2.pN).mono ?_;rintro e w3 ⟨a3,n3,c3,rfl,h3⟩;have b3:=(hS.trans (h2.bl.mono hS.size)).trans (h3.bl.mono (hS.trans (h2.bl.mono hS.size)).size);refine⟨b3,?_⟩;simp only[cQ];refine tI 9 rfl b3 ?_;simp only[cQ];refine wpAnyH_done cK ?_ _;have H3:=cE (((h3.trans h2.bl).trans hS).trans HW.out.2);clear h2 h3 b3 hS;go_wp2
 go_ret
 exact⟨a3,n3,c3,rfl,H3.out.cast (ag ..)⟩
def Rd.eF(r:Rd):Nat:=if 4294967296≤r.num 8 then 0 else r.num 8
def Rd.small(r:Rd):Rd:=if 4294967296≤r.num 8 then (r.take 8).DK else r.take 8
def Rd.iu(r:Rd)(n:Nat):Nat:=if n≤r.num 1 then 0 else r.num 1
def Rd.place(r:Rd)(n:Nat):Rd:=if n≤r.num 1 then (r.take 1).DK else r.take 1
def Rd.pF(r:Rd)(least:Int):Int:=if an (r.num 8:Nat)<least∨4≤an (r.num 8:Nat) then 0 else an (r.num 8:Nat)
def Rd.dK(r:Rd)(least:Int):Rd:=if an (r.num 8:Nat)<least∨4≤an (r.num 8:Nat) then (r.take 8).DK else r.take 8
def Rd.wR(r:Rd):Bool:=decide (r.iu 2=1)
def Rd.nj(r:Rd):cP:=(r.take 4).got (r.num 4)
def Rd.Ng(r:Rd):Rd:=(r.take 4).take (r.num 4)
def Rd.text(r:Rd)(most:Nat):Rd:=if most<r.nj.length then r.Ng.DK else r.Ng
section
variable(w:World)(rb:Nat)(r:Rd)(hr:eT w rb r)
include hr
theorem lF:Calls prog 126 #[.p rb] w (zM w rb (.u (r.eF)) r.small):=by
 have HT:=cE (lM w rb r hr);unfold Rd.eF Rd.small;obtain⟨v,hv⟩:=cG (r.num 8);have hlt:=r.PM;rw[←hv] at HT hlt⊢;clear hr hv;by_cases hb:4294967296≤v
 ·rw[if_pos hb,if_pos hb]
  have t1:decide ((4294967296:Int)≤(v:Int))=true:=by simp<;>omega
  clear hb;go_enter func126,ntmps126
  go_wp2_with fail
  refine HT.out.mono ?_;rintro e w1 ⟨rfl,h1,h2⟩;have H:=cE (cD h1 h2);clear h1 h2;go_wp2_with fail
  refine(rz w1 rb _ H.out.1).mono ?_;rintro e w2 ⟨rfl,h3,h4⟩;have H2:=cE (cD h3 h4);clear h3 h4;go_wp2
  go_ret
  exact⟨rfl,H2.out.1,H.out.2.trans H2.out.2⟩
 rw[if_neg hb,if_neg hb];have t1:decide ((4294967296:Int)≤(v:Int))=false:=by simp<;>omega
 have qx:v<4294967296:=by omega
 clear hb;go_enter func126,ntmps126
 go_wp2_with fail
 refine HT.out.mono ?_;rintro e w1 ⟨rfl,h1,h2⟩;have H:=cE (cD h1 h2);clear h1 h2;go_wp2
 go_ret
 exact⟨rfl,H.out⟩
theorem sN(n:Nat)(hn:n≤1000):Calls prog 146 #[.p rb,.i n] w (zM w rb (.i (r.iu n)) (r.place n)):=by
 have HT:=cE (Fz w rb r hr);unfold Rd.iu Rd.place;obtain⟨v,hv⟩:=cG (r.num 1);have hlt:=r.Tj;rw[←hv] at HT hlt⊢;clear hr hv;by_cases hb:n≤v
 ·rw[if_pos hb,if_pos hb]
  have t1:decide ((n:Int)≤(v:Int))=true:=by simp<;>omega
  have t2:decide (n≤v)=true:=by simp<;>omega
  clear hb;go_enter func146,ntmps146
  go_wp2_with fail
  refine HT.out.mono ?_;rintro e w1 ⟨rfl,h1,h2⟩;have H:=cE (cD h1 h2);clear h1 h2;go_wp2_with fail
  refine(rz w1 rb _ H.out.1).mono ?_;rintro e w2 ⟨rfl,h3,h4⟩;have H2:=cE (cD h3 h4);clear h3 h4;go_wp2
  go_ret
  exact⟨rfl,H2.out.1,H.out.2.trans H2.out.2⟩
 rw[if_neg hb,if_neg hb];have t1:decide ((n:Int)≤(v:Int))=false:=by simp<;>omega
 have t2:decide (n≤v)=false:=by simp<;>omega
 clear hb;go_enter func146,ntmps146
 go_wp2_with fail
 refine HT.out.mono ?_;rintro e w1 ⟨rfl,h1,h2⟩;have H:=cE (cD h1 h2);clear h1 h2;go_wp2
 go_ret
 exact⟨rfl,H.out⟩
theorem BX(least:Int):Calls prog 151 #[.p rb,.i least] w (zM w rb (.i (r.pF least)) (r.dK least)):=by
 have HT:=cE (S7 w rb r hr);unfold Rd.pF Rd.dK;obtain⟨v,hv⟩:=cG (an (r.num 8:Nat));rw[←hv] at HT⊢;clear hr hv;by_cases hb:v<least∨4≤v
 ·rw[if_pos hb,if_pos hb]
  by_cases de:v<least
  ·have t1:decide (v<least)=true:=by simpa using de
   clear hb de;go_enter func151,ntmps151
   go_wp2_with fail
   refine HT.out.mono ?_;rintro e w1 ⟨rfl,h1,h2⟩;have H:=cE (cD h1 h2);clear h1 h2;go_wp2_with fail
   refine(rz w1 rb _ H.out.1).mono ?_;rintro e w2 ⟨rfl,h3,h4⟩;have H2:=cE (cD h3 h4);clear h3 h4;go_wp2
   go_ret
   exact⟨rfl,H2.out.1,H.out.2.trans H2.out.2⟩
  have t1:decide (v<least)=false:=by simpa using de
  have t2:decide ((4:Int)≤v)=true:=by simp;omega
  clear hb de;go_enter func151,ntmps151
  go_wp2_with fail
  refine HT.out.mono ?_;rintro e w1 ⟨rfl,h1,h2⟩;have H:=cE (cD h1 h2);clear h1 h2;go_wp2_with fail
  refine(rz w1 rb _ H.out.1).mono ?_;rintro e w2 ⟨rfl,h3,h4⟩;have H2:=cE (cD h3 h4);clear h3 h4;go_wp2
  go_ret
  exact⟨rfl,H2.out.1,H.out.2.trans H2.out.2⟩
 rw[if_neg hb,if_neg hb];have t1:decide (v<least)=false:=by simp;omega
 have t2:decide ((4:Int)≤v)=false:=by simp;omega
 clear hb;go_enter func151,ntmps151
 go_wp2_with fail
 refine HT.out.mono ?_;rintro e w1 ⟨rfl,h1,h2⟩;have H:=cE (cD h1 h2);clear h1 h2;go_wp2
 go_ret
 exact⟨rfl,H.out⟩
theorem BY:Calls prog 231 #[.p rb] w (zM w rb (.bool r.wR) (r.place 2)):=by
 have HT:=cE (sN w rb r hr 2 cM);unfold Rd.wR;obtain⟨v,hv⟩:=cG (r.iu 2);rw[←hv] at HT⊢;have te:((v:Int)==1)=decide (v=1):=by by_cases h:v=1<;>simp[h]<;>omega
 have te2:(v==1)=decide (v=1):=by by_cases h:v=1<;>simp[h]
 obtain⟨g,hg⟩:=cG (decide (v=1));rw[←hg] at te te2⊢;clear hr hv hg;go_enter func231,ntmps231
 go_wp2_with fail
 refine HT.out.mono ?_;rintro e w1 ⟨rfl,h1,h2⟩;have H:=cE (cD h1 h2);clear h1 h2;go_wp2
 go_ret
 exact⟨rfl,H.out⟩
theorem wN(hl:r.b.length≤1000000000)(most:Nat)(hm:most≤1000):Calls prog 229 #[.p rb,.i most] w (Cw w rb r.nj (r.text most)):=by
 have HT:=cE (WY w rb r hr hl);unfold Rd.text;rw[show(r.take 4).got (r.num 4)=r.nj from rfl,show(r.take 4).take (r.num 4)=r.Ng from rfl] at HT;obtain⟨D,hD⟩:=cG r.nj;obtain⟨n,hn⟩:=cG D.length;unfold Cw at HT⊢;rw[←hD] at HT⊢;rw[←hn] at HT⊢;have HN:=cE hn;have ap9:=hr.lt;clear hr hD hn hl;by_cases hb:most<n
 ·rw[if_pos hb]
  have t1:decide ((most:Int)<(n:Int))=true:=by simp<;>omega
  have t2:decide (most<n)=true:=by simp<;>omega
  clear hb;go_enter func229,ntmps229
  go_wp2_with fail
  refine HT.out.mono ?_;rintro e w1 ⟨a,c,rfl,h1,h2,h3⟩;have H:=cE (cD h1 (cD h2 h3));have hrb:=h2.lt;clear h1 h2 h3;go_wp2_with fail
  refine(rz w1 rb _ H.out.2.1).mono ?_;rintro e w2 ⟨rfl,h3,h4⟩;have H2:=cE (cD h3 h4);clear h3 h4 hrb;go_wp2
  go_ret
  refine⟨a,c,rfl,H.out.1.kept H2.out.2 (fun b hb _ e=>by have hb:w.heap.size≤b:=hb;have e:b=rb:=e;omega),H2.out.1,H.out.2.2.trans H2.out.2⟩
 rw[if_neg hb];have t1:decide ((most:Int)<(n:Int))=false:=by simp<;>omega
 have t2:decide (most<n)=false:=by simp<;>omega
 clear hb;go_enter func229,ntmps229
 go_wp2_with fail
 refine HT.out.mono ?_;rintro e w1 ⟨a,c,rfl,h1,h2,h3⟩;have H:=cE (cD h1 (cD h2 h3));clear h1 h2 h3;go_wp2
 go_ret
 exact⟨a,c,rfl,H.out⟩
end
def nk(D:cP):cP:=dI 4 D.length++D
def Oy(n:Int):Prop:=0≤n∧n<18446744073709551616
theorem Oy.nat{n:Int}(h:Oy n):∃m:Nat,n=m∧m<18446744073709551616:=⟨n.toNat,by have:=h.1;omega,by have:=h.1;have:=h.2;omega⟩
structure tY(d:eL):Prop where
 gS:zL d.gS
 C5:zL d.C5
 next:zL d.next
 on:zL d.on
 made:Oy d.made
 EY:Oy d.EY
 DG:Oy d.DG
def yX(d:Nd):cP:=nk d.data++(dI 8 d.num.gS.toNat++dI 8 d.num.C5.toNat++dI 8 d.num.next.toNat)++kY d.num.os d.num.on++(dI 8 d.num.made.toNat++dI 8 d.num.EY.toNat++dI 8 d.num.DG.toNat)
theorem GX{k:Nat}(h:k<3){α:Type}(x y z:α):∃v,[x,y,z][k]?=some v∧(v=x∨v=y∨v=z):=by
 rcases(show k=0∨k=1∨k=2 by omega) with rfl|rfl|rfl
 ·exact⟨x,rfl,.inl rfl⟩
 ·exact⟨y,rfl,.inr (.inl rfl)⟩
 exact⟨z,rfl,.inr (.inr rfl)⟩
theorem sy(L:List Nat)(k:Nat)(hL:L.length=3):((L.take k).flatMap (dI 8)).length≤24:=by
 refine Nat.le_trans (jM (dI 8) L k) ?_
 match L,hL with
 |[x,y,z],_=>simp[dw]
theorem Tk(w:World){ao:Option Addr}{nb c:Nat}{B:cP}(hB:BytesIn w ao nb c B)(r:Raw)(d:Nd){lo:Nat→Prop}(hr:Reads w lo r d)(hn:tY d.num)(hl:B.length+d.data.length≤700000000):
  Calls prog 267 #[.slice ao nb c,r.val] w (eU w (B++yX d)):=by
 obtain⟨da,dn,dc,⟨q1,q2,q3,q4,q5,q6,q7,q8⟩⟩:=r;obtain⟨D,⟨d1,d2,d3,d4,d5,d6,d7,d8⟩⟩:=d;obtain⟨h1,h2,h3,h4⟩:=hr;cases h1;obtain⟨⟨v1,e1,u1⟩,⟨v2,e2,u2⟩,⟨v3,e3,u3⟩,⟨v5,e5,u5⟩,⟨v6,e6,u6⟩,⟨v7,e7,u7⟩,⟨v8,e8,u8⟩⟩:=cD hn.gS.nat (cD hn.C5.nat (cD hn.next.nat (cD hn.on.nat (cD hn.made.nat (cD hn.EY.nat hn.DG.nat)))));dsimp only at e1 e2 e3 e5 e6 e7 e8 h2 h3 h4 hl;subst e1 e2 e3 e5 e6 e7 e8;have Kf:Hid (B++yX ⟨D,⟨v1,v2,v3,q4,v5,v6,v7,v8⟩⟩=B++dI 4 D.length++D++[v1,v2,v3].flatMap (dI 8)++kY q4 v5++[v6,v7,v8].flatMap (dI 8)):=cE (by
  unfold yX nk;simp[List.flatMap_cons,ag])
 rw[Kf.out];have hD:BytesIn w da dn dc D:=⟨h2,h3.mono (fun _ _=>trivial) (Nat.le_refl _),h4⟩;unfold Raw.val Raw.cells eL.cells;dsimp only;obtain⟨w1,hw1,de,hs1,eW⟩:=dO w [.slice da dn dc,.u (v1:Int),.u (v2:Int),.u (v3:Int),.i q4,.u (v5:Int),.v (v6:Int),.v (v7:Int),.v (v8:Int)] 44;have HT:=cE (o8 w1 (hB.below de) cL (hD.below de) cL);have HW:=cE (cD hw1 (cD de eW));have HL:=cE hl;have HU:=cE (cD u1 (cD u2 (cD u3 (cD u6 (cD u7 u8)))));have HU5:Hid (zL (v5:Int)):=cE ⟨by omega,by omega⟩;have z0:=eW w1 (aj _ _) 0 _ rfl;have ahn:=cE fun(W:World) (a:Option Addr) (n c:Nat) (E:cP) (h:BytesIn W a n c E) (hd:E.length≤900000000) (v:Nat) (hv:v<18446744073709551616)=>iT W h hd v hv
 clear hB hn hl h2 h3 h4 hD hw1 eW de u1 u2 u3 u5 u6 u7 u8;go_enter func267,ntmps267
 go_wp2_with fail
 rw[←HW.out.1];refine HT.out.mono ?_;rintro e w2 ⟨a2,n2,c2,rfl,P2⟩;have Ot:=P2.bl;have k1:=HW.out.2.2 w2 Ot 1 _ rfl;have k2:=HW.out.2.2 w2 Ot 2 _ rfl;have k3:=HW.out.2.2 w2 Ot 3 _ rfl;obtain⟨w3,kz,eE,hs3,ED⟩:=dO w2 [.u (v1:Int),.u (v2:Int),.u (v3:Int)] 29;have H2:=cE P2;have vz:=cE (cD kz (cD eE ED));clear P2 kz eE ED Ot z0 hs3;go_wp2
 rw[←vz.out.1];clear k1 k2 k3;go_loopw [0,21] (fun bv kv wr=>∃(k:Nat) (a:Option Addr) (n c:Nat),k≤3∧kv=.i k∧bv=.slice a n c∧Hid (iF w1 (B++dI 4 D.length++D++([v1,v2,v3].take k).flatMap (dI 8)) a n c wr∧cF w3 wr)) (fun _ kv _=>3 - (intOf kv).toNat)
 case atStart=>exact⟨0,a2,n2,c2,by omega,rfl,rfl,cE ⟨⟨by simpa using H2.out.len,by simpa using (H2.out.at_.below vz.out.2.1),H2.out.bl.trans (vz.out.2.1.mono H2.out.bl.size)⟩,aj _ _⟩⟩
 obtain⟨k,a,n,c,hk,rfl,rfl,HS⟩:=hrel;by_cases hlt:k<3
 ·obtain⟨v,hv,EB⟩:=GX hlt v1 v2 v3
  have abx:v<18446744073709551616:=by
   have h1:=HU.out.1;have h2:=HU.out.2.1;have h3:=HU.out.2.2.1;rcases EB with rfl|rfl|rfl<;>omega
  have hcr:wr.cell? ⟨w2.heap.size,k,none⟩=some (.u (v:Int)):=by
   have:=vz.out.2.2 wr HS.out.2 k (.u (v:Int)) (by rcases(show k=0∨k=1∨k=2 by omega) with rfl|rfl|rfl<;>(simp at hv;subst hv;rfl));rw[ah] at this;exact this
  have tv:∀_:True,IntKind.u64.wrap (v:Int)=(v:Int):=fun _=>qR abx
  have hlen:(B++dI 4 D.length++D++([v1,v2,v3].take k).flatMap (dI 8)).length≤900000000:=by
   have h1:=HL.out;have h2:=sy [v1,v2,v3] k rfl;simp only[aa,dw];omega
  have HNU:=cE (ahn.out wr a n c _ HS.out.1.pN hlen v abx);have HVK:=cE hv;clear hlen hv EB abx;go_wp2_with fail
  refine HNU.out.mono ?_;rintro e w4 ⟨a4,n4,c4,rfl,h1⟩;have H4:Hid (iF w1 (B++dI 4 D.length++D++([v1,v2,v3].take (k+1)).flatMap (dI 8)) a4 n4 c4 w4∧cF w3 w4):=cE ⟨(h1.trans HS.out.1.bl).cast (by rw[jm _ HVK.out,ag]),HS.out.2.trans (h1.bl.mono HS.out.2.size)⟩;clear h1;go_wp2
  go_roundw
  case rel=>exact⟨k+1,a4,n4,c4,by omega,by go_num,rfl,H4⟩
  case measure=>simp[intOf];omega
 obtain rfl:k=3:=by omega
 have PS:=HS.out.1;rw[af cN] at PS;have rX:=cE (yQ wr PS.pN (by have:=HL.out;have h2:=sy [v1,v2,v3] 3 rfl;rw[af cN] at h2;simp only[aa,dw];omega) q4 (v5:Int) HU5.out);have hrs:wr.rangeAt w.heap.size 4 [.i q4,.u (v5:Int)]:=fun j u hu=>by
  have h1:=HW.out.2.2 wr PS.bl (4+j) u (by rcases(show j=0∨j=1 by have:=(List.getElem?_eq_some_iff.1 hu).1;simp at this;omega) with rfl|rfl<;>exact hu);rw[ah] at h1;exact h1
 have Ke:=cE hrs;have eY:Hid (cH 31 2):=cE cK;have HPS:=cE PS;clear PS hrs hlt hk;go_wp2_with (refine wpList_load_mid rfl 31 (.tmp 31) rfl w.heap.size 4 rfl [.i q4,.u (v5:Int)] _ Ke.out underlying31 rfl eY.out ?_)
 refine rX.out.mono ?_;rintro e w5 ⟨a5,n5,c5,rfl,h1⟩;have P5:=h1.trans HPS.out.bl;have k6:=HW.out.2.2 w5 P5.bl 6 _ rfl;have k7:=HW.out.2.2 w5 P5.bl 7 _ rfl;have k8:=HW.out.2.2 w5 P5.bl 8 _ rfl;have k5:=HW.out.2.2 w5 P5.bl 5 _ rfl;have H5:=cE P5;obtain⟨w6,l6,qb,NZ,RO⟩:=dO w5 [.v (v6:Int),.v (v7:Int),.v (v8:Int)] 36;have CO:=cE (cD l6 (cD qb RO));clear P5 h1 l6 qb RO NZ;go_wp2
 rw[←CO.out.1];clear k5 k6 k7 k8;go_loopw [0,42] (fun bv kv wr=>∃(k:Nat) (a:Option Addr) (n c:Nat),k≤3∧kv=.i k∧bv=.slice a n c∧Hid (iF w1 (B++dI 4 D.length++D++[v1,v2,v3].flatMap (dI 8)++kY q4 (v5:Int)++([v6,v7,v8].take k).flatMap (dI 8)) a n c wr∧cF w6 wr)) (fun _ kv _=>3 - (intOf kv).toNat)
 case atStart=>exact⟨0,a5,n5,c5,by omega,rfl,rfl,cE ⟨⟨by simpa using H5.out.len,by simpa using (H5.out.at_.below CO.out.2.1),H5.out.bl.trans (CO.out.2.1.mono H5.out.bl.size)⟩,aj _ _⟩⟩
 obtain⟨k,a,n,c,hk,rfl,rfl,HT⟩:=hrel;by_cases hlt:k<3
 ·obtain⟨v,hv,EB⟩:=GX hlt v6 v7 v8
  have hv64:v<18446744073709551616:=by
   have h1:=HU.out.2.2.2.1;have h2:=HU.out.2.2.2.2.1;have h3:=HU.out.2.2.2.2.2;rcases EB with rfl|rfl|rfl<;>assumption
  have hcr:wr.cell? ⟨w5.heap.size,k,none⟩=some (.v (v:Int)):=by
   have:=CO.out.2.2 wr HT.out.2 k (.v (v:Int)) (by rcases(show k=0∨k=1∨k=2 by omega) with rfl|rfl|rfl<;>(simp at hv;subst hv;rfl));rw[ah] at this;exact this
  have hlen:(B++dI 4 D.length++D++[v1,v2,v3].flatMap (dI 8)++kY q4 (v5:Int)++([v6,v7,v8].take k).flatMap (dI 8)).length≤900000000:=by
   have h1:=HL.out;have h2:=sy [v6,v7,v8] k rfl;have h3:=sy [v1,v2,v3] 3 rfl;rw[af cN] at h3;have h4:(kY q4 (v5:Int)).length=9:=by unfold kY;rw[aa,dw,dw]
   simp only[aa,dw];omega
  have HNU:=cE (ahn.out wr a n c _ HT.out.1.pN hlen v hv64);have HVK:=cE hv;clear hlen hv EB hv64;go_wp2_with fail
  refine HNU.out.mono ?_;rintro e w7 ⟨a7,n7,c7,rfl,h1⟩;have H7:Hid (iF w1 (B++dI 4 D.length++D++[v1,v2,v3].flatMap (dI 8)++kY q4 (v5:Int)++([v6,v7,v8].take (k+1)).flatMap (dI 8)) a7 n7 c7 w7∧cF w6 w7):=cE ⟨(h1.trans HT.out.1.bl).cast (by rw[jm _ HVK.out,ag]),HT.out.2.trans (h1.bl.mono HT.out.2.size)⟩;clear h1;go_wp2
  go_roundw
  case rel=>exact⟨k+1,a7,n7,c7,by omega,by go_num,rfl,H7⟩
  case measure=>simp[intOf];omega
 obtain rfl:k=3:=by omega
 have HE:=cE HT.out.1;clear hlt hk;go_wp2
 go_ret
 exact⟨a,n,c,rfl,(HE.out.trans HW.out.2.1).cast (by rw[af cN])⟩
end
