/- Part 18. -/
import Derived.Test.YtdpaejbaoefdjaaGreatDoorG17
import Derived.Lib.ConvBytes
open List renaming length_append → aa,take_of_length_le → af,append_assoc → ag
open Nat renaming zero_add → ah
open Go.RowKit.Below renaming refl → aj
open Go.RowKit renaming wrap64 → an
namespace Go.Proofs.YtdpaejbaoefdjaaGreatDoor
open Go.Proofs.Tryz
set_option maxRecDepth 100000
set_option maxHeartbeats 64000000
set_option linter.unusedVariables false
set_option linter.unusedSimpArgs false
section
open Go.RowKit Go.Shelf Go.MapKept Go.ChangeMaps
def iO(s n:Int):cO:=dw 1 (s % 256).toNat++dw 8 n.toNat
def wD(n:Int):Prop:=0≤n∧n<4294967296
theorem wD.nat{n:Int}(h:wD n):∃m:Nat,n=m∧m<4294967296:=⟨n.toNat,by have:=h.1;omega,by have:=h.1;have:=h.2;omega⟩
theorem ES(s:Int):∃v:Nat,s % 256=v∧v<256∧(s % 256).toNat=v:=⟨(s % 256).toNat,by omega,by omega,rfl⟩
theorem wrap_u8(s:Int):IntKind.u8.wrap s=s % 256:=by simp[IntKind.wrap,IntKind.bits,IntKind.signed]
theorem qM{m:Nat}(h:m<18446744073709551616):IntKind.u64.wrap (m:Int)=(m:Int):=by rw[IntKind.wrap_u64];omega
theorem dX(w:World)(cs:List Value)(t:TypeId):∃w1,w1=w.alloc (.cells cs.toArray t)∧cE w w1∧w1.heap.size=w.heap.size+1∧(∀w',cE w1 w'→w'.rangeAt w.heap.size 0 cs):=by
 refine⟨_,rfl,cT (aj _ w) _,by simp,fun w' hb j u hu=>?_⟩;refine(hb.cell (p:=⟨w.heap.size,0+j,none⟩) cM).trans ?_;rw[ah,cell_of_row _ _ j _ t (0,0) (heap_alloc_new w _)];simpa using hu
theorem yh(w:World){ao:Option Addr}{nb c:Nat}{B:cO}(hB:BytesIn w ao nb c B)(hl:B.length≤800000000)(s n:Int)(hn:wD n):
  Calls prog 128 #[.slice ao nb c,.agg #[.i s,.u n]] w (fe w (B++iO s n)):=by
 obtain⟨m,rfl,hm⟩:=hn.nat;obtain⟨v,hv,qg,Dz⟩:=ES s;have HSB:Hid (iO s (m:Int)=dw 1 v++dw 8 m):=cD (by unfold iO;rw[Dz,Int.toNat_natCast]);rw[HSB.out];have tk:∀_:True,IntKind.u8.wrap s=(v:Int):=fun _=>(wrap_u8 s).trans hv
 have tm:∀_:True,IntKind.u64.wrap (m:Int)=(m:Int):=fun _=>qM cK
 obtain⟨w1,hw1,dB,hs1,hr⟩:=dX w [.i s,.u (m:Int)] 31;have y0:∀w',cE w1 w'→w'.cell? ⟨w.heap.size,0,none⟩=some (.i s):=fun w' h=>hr w' h 0 _ rfl
 have y1:∀w',cE w1 w'→w'.cell? ⟨w.heap.size,1,none⟩=some (.u (m:Int)):=fun w' h=>hr w' h 1 _ rfl
 have HB:=cD fun W (h:cE w1 W)=>nN W (hB.below (dB.trans (h.mono dB.size))) cK v qg
 have HU:=cD fun(W:World) (a:Option Addr) (n c:Nat) (h:BytesIn W a n c (B++dw 1 v))=>iW W h (by rw[aa,dD];omega) m cK
 have HW:=cD (cC hw1 dB);clear hB hl hn hv qg Dz hw1 hr;go_enter func128,ntmps128
 go_wp2_with fail
 rw[←HW.out.1];refine rB fun wd hS=>?_
 refine tI 0 rfl hS ?_;refine tI 1 rfl hS ?_;refine tJ 2 rfl hS y0 ?_;refine tI 3 rfl hS ?_;simp only[cR];refine tI 5 rfl hS ?_;refine tJ 6 rfl hS y1 ?_;refine tI 7 rfl hS ?_;simp only[cR];refine cI 4 rfl ?_;refine(HB.out _ hS).mono ?_;rintro e w2 ⟨a2,n2,c2,rfl,h2⟩;refine⟨hS.trans (h2.bl.mono hS.size),?_⟩;simp only[cR];refine cI 8 rfl ?_;refine(HU.out _ a2 n2 c2 h2.pH).mono ?_;rintro e w3 ⟨a3,n3,c3,rfl,h3⟩;have b3:=(hS.trans (h2.bl.mono hS.size)).trans (h3.bl.mono (hS.trans (h2.bl.mono hS.size)).size);refine⟨b3,?_⟩;simp only[cR];refine tI 9 rfl b3 ?_;simp only[cR];refine wpAnyH_done cJ ?_ _;have H3:=cD (((h3.trans h2.bl).trans hS).trans HW.out.2);clear h2 h3 b3 hS;go_wp2
 go_ret
 exact⟨a3,n3,c3,rfl,H3.out.cast (ag ..)⟩
def Rd.eH(r:Rd):Nat:=if 4294967296≤r.num 8 then 0 else r.num 8
def Rd.small(r:Rd):Rd:=if 4294967296≤r.num 8 then (r.take 8).CZ else r.take 8
def Rd.gL(r:Rd)(n:Nat):Nat:=if n≤r.num 1 then 0 else r.num 1
def Rd.place(r:Rd)(n:Nat):Rd:=if n≤r.num 1 then (r.take 1).CZ else r.take 1
def Rd.nX(r:Rd)(least:Int):Int:=if an (r.num 8:Nat)<least∨4≤an (r.num 8:Nat) then 0 else an (r.num 8:Nat)
def Rd.dO(r:Rd)(least:Int):Rd:=if an (r.num 8:Nat)<least∨4≤an (r.num 8:Nat) then (r.take 8).CZ else r.take 8
def Rd.rG(r:Rd):Bool:=decide (r.gL 2=1)
def Rd.lz(r:Rd):cO:=(r.take 4).got (r.num 4)
def Rd.F7(r:Rd):Rd:=(r.take 4).take (r.num 4)
def Rd.text(r:Rd)(most:Nat):Rd:=if most<r.lz.length then r.F7.CZ else r.F7
section
variable(w:World)(rb:Nat)(r:Rd)(hr:eZ w rb r)
include hr
theorem lG:Calls prog 126 #[.p rb] w (yV w rb (.u (r.eH)) r.small):=by
 have HT:=cD (lN w rb r hr);unfold Rd.eH Rd.small;obtain⟨v,hv⟩:=cF (r.num 8);have hlt:=r.On;rw[←hv] at HT hlt⊢;clear hr hv;by_cases hb:4294967296≤v
 ·rw[if_pos hb,if_pos hb]
  have t1:decide ((4294967296:Int)≤(v:Int))=true:=by simp<;>omega
  clear hb;go_enter func126,ntmps126
  go_wp2_with fail
  refine HT.out.mono ?_;rintro e w1 ⟨rfl,h1,h2⟩;have H:=cD (cC h1 h2);clear h1 h2;go_wp2_with fail
  refine(qW w1 rb _ H.out.1).mono ?_;rintro e w2 ⟨rfl,h3,h4⟩;have H2:=cD (cC h3 h4);clear h3 h4;go_wp2
  go_ret
  exact⟨rfl,H2.out.1,H.out.2.trans H2.out.2⟩
 rw[if_neg hb,if_neg hb];have t1:decide ((4294967296:Int)≤(v:Int))=false:=by simp<;>omega
 have qg:v<4294967296:=by omega
 clear hb;go_enter func126,ntmps126
 go_wp2_with fail
 refine HT.out.mono ?_;rintro e w1 ⟨rfl,h1,h2⟩;have H:=cD (cC h1 h2);clear h1 h2;go_wp2
 go_ret
 exact⟨rfl,H.out⟩
theorem sC(n:Nat)(hn:n≤1000):Calls prog 146 #[.p rb,.i n] w (yV w rb (.i (r.gL n)) (r.place n)):=by
 have HT:=cD (EC w rb r hr);unfold Rd.gL Rd.place;obtain⟨v,hv⟩:=cF (r.num 1);have hlt:=r.RE;rw[←hv] at HT hlt⊢;clear hr hv;by_cases hb:n≤v
 ·rw[if_pos hb,if_pos hb]
  have t1:decide ((n:Int)≤(v:Int))=true:=by simp<;>omega
  have t2:decide (n≤v)=true:=by simp<;>omega
  clear hb;go_enter func146,ntmps146
  go_wp2_with fail
  refine HT.out.mono ?_;rintro e w1 ⟨rfl,h1,h2⟩;have H:=cD (cC h1 h2);clear h1 h2;go_wp2_with fail
  refine(qW w1 rb _ H.out.1).mono ?_;rintro e w2 ⟨rfl,h3,h4⟩;have H2:=cD (cC h3 h4);clear h3 h4;go_wp2
  go_ret
  exact⟨rfl,H2.out.1,H.out.2.trans H2.out.2⟩
 rw[if_neg hb,if_neg hb];have t1:decide ((n:Int)≤(v:Int))=false:=by simp<;>omega
 have t2:decide (n≤v)=false:=by simp<;>omega
 clear hb;go_enter func146,ntmps146
 go_wp2_with fail
 refine HT.out.mono ?_;rintro e w1 ⟨rfl,h1,h2⟩;have H:=cD (cC h1 h2);clear h1 h2;go_wp2
 go_ret
 exact⟨rfl,H.out⟩
theorem Bg(least:Int):Calls prog 151 #[.p rb,.i least] w (yV w rb (.i (r.nX least)) (r.dO least)):=by
 have HT:=cD (Rr w rb r hr);unfold Rd.nX Rd.dO;obtain⟨v,hv⟩:=cF (an (r.num 8:Nat));rw[←hv] at HT⊢;clear hr hv;by_cases hb:v<least∨4≤v
 ·rw[if_pos hb,if_pos hb]
  by_cases dB:v<least
  ·have t1:decide (v<least)=true:=by simpa using dB
   clear hb dB;go_enter func151,ntmps151
   go_wp2_with fail
   refine HT.out.mono ?_;rintro e w1 ⟨rfl,h1,h2⟩;have H:=cD (cC h1 h2);clear h1 h2;go_wp2_with fail
   refine(qW w1 rb _ H.out.1).mono ?_;rintro e w2 ⟨rfl,h3,h4⟩;have H2:=cD (cC h3 h4);clear h3 h4;go_wp2
   go_ret
   exact⟨rfl,H2.out.1,H.out.2.trans H2.out.2⟩
  have t1:decide (v<least)=false:=by simpa using dB
  have t2:decide ((4:Int)≤v)=true:=by simp;omega
  clear hb dB;go_enter func151,ntmps151
  go_wp2_with fail
  refine HT.out.mono ?_;rintro e w1 ⟨rfl,h1,h2⟩;have H:=cD (cC h1 h2);clear h1 h2;go_wp2_with fail
  refine(qW w1 rb _ H.out.1).mono ?_;rintro e w2 ⟨rfl,h3,h4⟩;have H2:=cD (cC h3 h4);clear h3 h4;go_wp2
  go_ret
  exact⟨rfl,H2.out.1,H.out.2.trans H2.out.2⟩
 rw[if_neg hb,if_neg hb];have t1:decide (v<least)=false:=by simp;omega
 have t2:decide ((4:Int)≤v)=false:=by simp;omega
 clear hb;go_enter func151,ntmps151
 go_wp2_with fail
 refine HT.out.mono ?_;rintro e w1 ⟨rfl,h1,h2⟩;have H:=cD (cC h1 h2);clear h1 h2;go_wp2
 go_ret
 exact⟨rfl,H.out⟩
theorem Bh:Calls prog 231 #[.p rb] w (yV w rb (.bool r.rG) (r.place 2)):=by
 have HT:=cD (sC w rb r hr 2 cL);unfold Rd.rG;obtain⟨v,hv⟩:=cF (r.gL 2);rw[←hv] at HT⊢;have te:((v:Int)==1)=decide (v=1):=by by_cases h:v=1<;>simp[h]<;>omega
 have te2:(v==1)=decide (v=1):=by by_cases h:v=1<;>simp[h]
 obtain⟨g,hg⟩:=cF (decide (v=1));rw[←hg] at te te2⊢;clear hr hv hg;go_enter func231,ntmps231
 go_wp2_with fail
 refine HT.out.mono ?_;rintro e w1 ⟨rfl,h1,h2⟩;have H:=cD (cC h1 h2);clear h1 h2;go_wp2
 go_ret
 exact⟨rfl,H.out⟩
theorem vS(hl:r.b.length≤1000000000)(most:Nat)(hm:most≤1000):Calls prog 229 #[.p rb,.i most] w (BM w rb r.lz (r.text most)):=by
 have HT:=cD (Vs w rb r hr hl);unfold Rd.text;rw[show(r.take 4).got (r.num 4)=r.lz from rfl,show(r.take 4).take (r.num 4)=r.F7 from rfl] at HT;obtain⟨D,hD⟩:=cF r.lz;obtain⟨n,hn⟩:=cF D.length;unfold BM at HT⊢;rw[←hD] at HT⊢;rw[←hn] at HT⊢;have HN:=cD hn;have aoG:=hr.lt;clear hr hD hn hl;by_cases hb:most<n
 ·rw[if_pos hb]
  have t1:decide ((most:Int)<(n:Int))=true:=by simp<;>omega
  have t2:decide (most<n)=true:=by simp<;>omega
  clear hb;go_enter func229,ntmps229
  go_wp2_with fail
  refine HT.out.mono ?_;rintro e w1 ⟨a,c,rfl,h1,h2,h3⟩;have H:=cD (cC h1 (cC h2 h3));have hrb:=h2.lt;clear h1 h2 h3;go_wp2_with fail
  refine(qW w1 rb _ H.out.2.1).mono ?_;rintro e w2 ⟨rfl,h3,h4⟩;have H2:=cD (cC h3 h4);clear h3 h4 hrb;go_wp2
  go_ret
  refine⟨a,c,rfl,H.out.1.kept H2.out.2 (fun b hb _ e=>by have hb:w.heap.size≤b:=hb;have e:b=rb:=e;omega),H2.out.1,H.out.2.2.trans H2.out.2⟩
 rw[if_neg hb];have t1:decide ((most:Int)<(n:Int))=false:=by simp<;>omega
 have t2:decide (most<n)=false:=by simp<;>omega
 clear hb;go_enter func229,ntmps229
 go_wp2_with fail
 refine HT.out.mono ?_;rintro e w1 ⟨a,c,rfl,h1,h2,h3⟩;have H:=cD (cC h1 (cC h2 h3));clear h1 h2 h3;go_wp2
 go_ret
 exact⟨a,c,rfl,H.out⟩
end
def kq(D:cO):cO:=dw 4 D.length++D
def Ji(n:Int):Prop:=0≤n∧n<18446744073709551616
theorem Ji.nat{n:Int}(h:Ji n):∃m:Nat,n=m∧m<18446744073709551616:=⟨n.toNat,by have:=h.1;omega,by have:=h.1;have:=h.2;omega⟩
structure tH(d:eU):Prop where
 gW:wD d.gW
 BV:wD d.BV
 next:wD d.next
 on:wD d.on
 made:Ji d.made
 CI:Ji d.CI
 Ch:Ji d.Ch
def pg(d:Nd):cO:=kq d.data++(dw 8 d.num.gW.toNat++dw 8 d.num.BV.toNat++dw 8 d.num.next.toNat)++iO d.num.os d.num.on++(dw 8 d.num.made.toNat++dw 8 d.num.CI.toNat++dw 8 d.num.Ch.toNat)
theorem F5{k:Nat}(h:k<3){α:Type}(x y z:α):∃v,[x,y,z][k]?=some v∧(v=x∨v=y∨v=z):=by
 rcases(show k=0∨k=1∨k=2 by omega) with rfl|rfl|rfl
 ·exact⟨x,rfl,.inl rfl⟩
 ·exact⟨y,rfl,.inr (.inl rfl)⟩
 exact⟨z,rfl,.inr (.inr rfl)⟩
theorem sj(L:List Nat)(k:Nat)(hL:L.length=3):((L.take k).flatMap (dw 8)).length≤24:=by
 refine Nat.le_trans (jQ (dw 8) L k) ?_
 match L,hL with
 |[x,y,z],_=>simp[dD]
theorem RF(w:World){ao:Option Addr}{nb c:Nat}{B:cO}(hB:BytesIn w ao nb c B)(r:Raw)(d:Nd){lo:Nat→Prop}(hr:Reads w lo r d)(hn:tH d.num)(hl:B.length+d.data.length≤700000000):
  Calls prog 267 #[.slice ao nb c,r.val] w (fe w (B++pg d)):=by
 obtain⟨da,dn,dc,⟨q1,q2,q3,q4,q5,q6,q7,q8⟩⟩:=r;obtain⟨D,⟨d1,d2,d3,d4,d5,d6,d7,d8⟩⟩:=d;obtain⟨h1,h2,h3,h4⟩:=hr;cases h1;obtain⟨⟨v1,e1,u1⟩,⟨v2,e2,u2⟩,⟨v3,e3,u3⟩,⟨v5,e5,u5⟩,⟨v6,e6,u6⟩,⟨v7,e7,u7⟩,⟨v8,e8,u8⟩⟩:=cC hn.gW.nat (cC hn.BV.nat (cC hn.next.nat (cC hn.on.nat (cC hn.made.nat (cC hn.CI.nat hn.Ch.nat)))));dsimp only at e1 e2 e3 e5 e6 e7 e8 h2 h3 h4 hl;subst e1 e2 e3 e5 e6 e7 e8;have Jn:Hid (B++pg ⟨D,⟨v1,v2,v3,q4,v5,v6,v7,v8⟩⟩=B++dw 4 D.length++D++[v1,v2,v3].flatMap (dw 8)++iO q4 v5++[v6,v7,v8].flatMap (dw 8)):=cD (by
  unfold pg kq;simp[List.flatMap_cons,ag])
 rw[Jn.out];have hD:BytesIn w da dn dc D:=⟨h2,h3.mono (fun _ _=>trivial) (Nat.le_refl _),h4⟩;unfold Raw.val Raw.cells eU.cells;dsimp only;obtain⟨w1,hw1,dB,hs1,fS⟩:=dX w [.slice da dn dc,.u (v1:Int),.u (v2:Int),.u (v3:Int),.i q4,.u (v5:Int),.v (v6:Int),.v (v7:Int),.v (v8:Int)] 44;have HT:=cD (oV w1 (hB.below dB) cK (hD.below dB) cK);have HW:=cD (cC hw1 (cC dB fS));have HL:=cD hl;have HU:=cD (cC u1 (cC u2 (cC u3 (cC u6 (cC u7 u8)))));have HU5:Hid (wD (v5:Int)):=cD ⟨by omega,by omega⟩;have z0:=fS w1 (aj _ _) 0 _ rfl;have afy:=cD fun(W:World) (a:Option Addr) (n c:Nat) (E:cO) (h:BytesIn W a n c E) (hd:E.length≤900000000) (v:Nat) (hv:v<18446744073709551616)=>iW W h hd v hv
 clear hB hn hl h2 h3 h4 hD hw1 fS dB u1 u2 u3 u5 u6 u7 u8;go_enter func267,ntmps267
 go_wp2_with fail
 rw[←HW.out.1];refine HT.out.mono ?_;rintro e w2 ⟨a2,n2,c2,rfl,P2⟩;have Na:=P2.bl;have k1:=HW.out.2.2 w2 Na 1 _ rfl;have k2:=HW.out.2.2 w2 Na 2 _ rfl;have k3:=HW.out.2.2 w2 Na 3 _ rfl;obtain⟨w3,kJ,eO,hs3,DD⟩:=dX w2 [.u (v1:Int),.u (v2:Int),.u (v3:Int)] 29;have H2:=cD P2;have uR:=cD (cC kJ (cC eO DD));clear P2 kJ eO DD Na z0 hs3;go_wp2
 rw[←uR.out.1];clear k1 k2 k3;go_loopw [0,21] (fun bv kv wr=>∃(k:Nat) (a:Option Addr) (n c:Nat),k≤3∧kv=.i k∧bv=.slice a n c∧Hid (iJ w1 (B++dw 4 D.length++D++([v1,v2,v3].take k).flatMap (dw 8)) a n c wr∧cE w3 wr)) (fun _ kv _=>3 - (intOf kv).toNat)
 case atStart=>exact⟨0,a2,n2,c2,by omega,rfl,rfl,cD ⟨⟨by simpa using H2.out.len,by simpa using (H2.out.cS.below uR.out.2.1),H2.out.bl.trans (uR.out.2.1.mono H2.out.bl.size)⟩,aj _ _⟩⟩
 obtain⟨k,a,n,c,hk,rfl,rfl,HS⟩:=hrel;by_cases hlt:k<3
 ·obtain⟨v,hv,Dz⟩:=F5 hlt v1 v2 v3
  have ZY:v<18446744073709551616:=by
   have h1:=HU.out.1;have h2:=HU.out.2.1;have h3:=HU.out.2.2.1;rcases Dz with rfl|rfl|rfl<;>omega
  have hcr:wr.cell? ⟨w2.heap.size,k,none⟩=some (.u (v:Int)):=by
   have:=uR.out.2.2 wr HS.out.2 k (.u (v:Int)) (by rcases(show k=0∨k=1∨k=2 by omega) with rfl|rfl|rfl<;>(simp at hv;subst hv;rfl));rw[ah] at this;exact this
  have tv:∀_:True,IntKind.u64.wrap (v:Int)=(v:Int):=fun _=>qM ZY
  have hlen:(B++dw 4 D.length++D++([v1,v2,v3].take k).flatMap (dw 8)).length≤900000000:=by
   have h1:=HL.out;have h2:=sj [v1,v2,v3] k rfl;simp only[aa,dD];omega
  have HNU:=cD (afy.out wr a n c _ HS.out.1.pH hlen v ZY);have HVK:=cD hv;clear hlen hv Dz ZY;go_wp2_with fail
  refine HNU.out.mono ?_;rintro e w4 ⟨a4,n4,c4,rfl,h1⟩;have H4:Hid (iJ w1 (B++dw 4 D.length++D++([v1,v2,v3].take (k+1)).flatMap (dw 8)) a4 n4 c4 w4∧cE w3 w4):=cD ⟨(h1.trans HS.out.1.bl).cast (by rw[ju _ HVK.out,ag]),HS.out.2.trans (h1.bl.mono HS.out.2.size)⟩;clear h1;go_wp2
  go_roundw
  case rel=>exact⟨k+1,a4,n4,c4,by omega,by go_num,rfl,H4⟩
  case measure=>simp[intOf];omega
 obtain rfl:k=3:=by omega
 have PS:=HS.out.1;rw[af cM] at PS;have za:=cD (yh wr PS.pH (by have:=HL.out;have h2:=sj [v1,v2,v3] 3 rfl;rw[af cM] at h2;simp only[aa,dD];omega) q4 (v5:Int) HU5.out);have hrs:wr.rangeAt w.heap.size 4 [.i q4,.u (v5:Int)]:=fun j u hu=>by
  have h1:=HW.out.2.2 wr PS.bl (4+j) u (by rcases(show j=0∨j=1 by have:=(List.getElem?_eq_some_iff.1 hu).1;simp at this;omega) with rfl|rfl<;>exact hu);rw[ah] at h1;exact h1
 have Jm:=cD hrs;have fm:Hid (cG 31 2):=cD cJ;have HPS:=cD PS;clear PS hrs hlt hk;go_wp2_with (refine wpList_load_mid rfl 31 (.tmp 31) rfl w.heap.size 4 rfl [.i q4,.u (v5:Int)] _ Jm.out underlying31 rfl fm.out ?_)
 refine za.out.mono ?_;rintro e w5 ⟨a5,n5,c5,rfl,h1⟩;have P5:=h1.trans HPS.out.bl;have k6:=HW.out.2.2 w5 P5.bl 6 _ rfl;have k7:=HW.out.2.2 w5 P5.bl 7 _ rfl;have k8:=HW.out.2.2 w5 P5.bl 8 _ rfl;have k5:=HW.out.2.2 w5 P5.bl 5 _ rfl;have H5:=cD P5;obtain⟨w6,mU,uE,MN,Qp⟩:=dX w5 [.v (v6:Int),.v (v7:Int),.v (v8:Int)] 36;have Ef:=cD (cC mU (cC uE Qp));clear P5 h1 mU uE Qp MN;go_wp2
 rw[←Ef.out.1];clear k5 k6 k7 k8;go_loopw [0,42] (fun bv kv wr=>∃(k:Nat) (a:Option Addr) (n c:Nat),k≤3∧kv=.i k∧bv=.slice a n c∧Hid (iJ w1 (B++dw 4 D.length++D++[v1,v2,v3].flatMap (dw 8)++iO q4 (v5:Int)++([v6,v7,v8].take k).flatMap (dw 8)) a n c wr∧cE w6 wr)) (fun _ kv _=>3 - (intOf kv).toNat)
 case atStart=>exact⟨0,a5,n5,c5,by omega,rfl,rfl,cD ⟨⟨by simpa using H5.out.len,by simpa using (H5.out.cS.below Ef.out.2.1),H5.out.bl.trans (Ef.out.2.1.mono H5.out.bl.size)⟩,aj _ _⟩⟩
 obtain⟨k,a,n,c,hk,rfl,rfl,HT⟩:=hrel;by_cases hlt:k<3
 ·obtain⟨v,hv,Dz⟩:=F5 hlt v6 v7 v8
  have hv64:v<18446744073709551616:=by
   have h1:=HU.out.2.2.2.1;have h2:=HU.out.2.2.2.2.1;have h3:=HU.out.2.2.2.2.2;rcases Dz with rfl|rfl|rfl<;>assumption
  have hcr:wr.cell? ⟨w5.heap.size,k,none⟩=some (.v (v:Int)):=by
   have:=Ef.out.2.2 wr HT.out.2 k (.v (v:Int)) (by rcases(show k=0∨k=1∨k=2 by omega) with rfl|rfl|rfl<;>(simp at hv;subst hv;rfl));rw[ah] at this;exact this
  have hlen:(B++dw 4 D.length++D++[v1,v2,v3].flatMap (dw 8)++iO q4 (v5:Int)++([v6,v7,v8].take k).flatMap (dw 8)).length≤900000000:=by
   have h1:=HL.out;have h2:=sj [v6,v7,v8] k rfl;have h3:=sj [v1,v2,v3] 3 rfl;rw[af cM] at h3;have h4:(iO q4 (v5:Int)).length=9:=by unfold iO;rw[aa,dD,dD]
   simp only[aa,dD];omega
  have HNU:=cD (afy.out wr a n c _ HT.out.1.pH hlen v hv64);have HVK:=cD hv;clear hlen hv Dz hv64;go_wp2_with fail
  refine HNU.out.mono ?_;rintro e w7 ⟨a7,n7,c7,rfl,h1⟩;have H7:Hid (iJ w1 (B++dw 4 D.length++D++[v1,v2,v3].flatMap (dw 8)++iO q4 (v5:Int)++([v6,v7,v8].take (k+1)).flatMap (dw 8)) a7 n7 c7 w7∧cE w6 w7):=cD ⟨(h1.trans HT.out.1.bl).cast (by rw[ju _ HVK.out,ag]),HT.out.2.trans (h1.bl.mono HT.out.2.size)⟩;clear h1;go_wp2
  go_roundw
  case rel=>exact⟨k+1,a7,n7,c7,by omega,by go_num,rfl,H7⟩
  case measure=>simp[intOf];omega
 obtain rfl:k=3:=by omega
 have HE:=cD HT.out.1;clear hlt hk;go_wp2
 go_ret
 exact⟨a,n,c,rfl,(HE.out.trans HW.out.2.1).cast (by rw[af cM])⟩
end
