/- Part 15. -/
import Derived.Test.YtdpaejbaoefdjaaGreatDoorQ12
import Derived.Test.YtdpaejbaoefdjaaGreatDoorQ14
open List renaming getElem?_eq_getElem → aa,mem_of_getElem? → af,mem_iff_getElem → aj,any_eq_false → aq
open Go.RowKit.Below renaming refl → ag
open Go renaming Calls → ah,World → an
namespace Go.Proofs.YtdpaejbaoefdjaaGreatDoor
open Go.Proofs.Tryz
set_option maxRecDepth 100000
set_option maxHeartbeats 64000000
set_option linter.unusedVariables false
set_option linter.unusedSimpArgs false
section
open Go.RowKit
def YL(n:Nat)(w:an)(e:Ending)(w':an):Prop:=∃a c,e=.returned (.slice a n c)∧cF w w'
theorem aa6(l:cP)(hl:l.length≤1000)(w:an)(hm:dG w):ah prog 179 #[.s l] w (YL (jF l) w):=by
 unfold jF;cases h:dx l with
 |none=>exact(Lf l h (pz hl (Nat.le_refl _)) w hm).mono fun e w' ⟨he,hb⟩=>⟨_,_,he,hb⟩
 |some L=>
 cases L with
 |nil=>exact(PC l h w).mono fun e w' ⟨he,hb⟩=>⟨_,_,he,hb▸ag _ _⟩
 |cons x L=>exact(Le l (x::L) h cN w hm).mono fun e w' ⟨he,_,hb⟩=>⟨_,_,he,hb⟩
theorem xX(ao:Option Addr)(c:Nat)(L:List cP)(p:cP)(w:an)(hm:dG w)(hbig:L.length≤1000)(hp:p.length≤1000)(hL:∀r∈L,r.length≤1000)(hc:gA w w.heap.size ao L):
  ah prog 70 #[.slice ao L.length c,.s p] w fun e w'=>e=.returned (.i (Ao L p))∧cF w w':=by
 have HC:=cE hc;have HM:=cE hm;have HL:=cE hL;have HP:=cE hp;clear hc hm hL hp;obtain⟨N,hN⟩:=cG L.length;have HN:=cE hN;unfold Ao;rw[←hN] at hbig⊢;clear hN;go_enter func70,ntmps70
 go_wp2
 go_loopw [5,6,12] (fun b m i wr=>∃k:Nat,k≤N∧i=.i k∧b=.i (kX L p k).1∧m=.i (kX L p k).2∧Hid (cF w wr)) (fun _ _ i _=>N - (intOf i).toNat)
 case atStart=>exact⟨0,by omega,rfl,rfl,rfl,cE (ag _ _)⟩
 obtain⟨k,hk,rfl,rfl,rfl,HB⟩:=hrel;have hbd:=Xh L p k (by rw[←HN.out];exact hk);by_cases hlt:k<N
 ·obtain⟨r,hr⟩:∃r,L[k]?=some r:=⟨_,aa (by rw[←HN.out];exact hlt)⟩
  obtain⟨b,off,rfl,hb,hcell⟩:=HC.out k r hr;have hcell:wr.cell? ⟨b,off+k,none⟩=some (.s r):=(HB.out.cell (p:=⟨b,off+k,none⟩) hb).trans hcell;have HS:=cE (Ea (p:=p) hr);have hrl:=HL.out r (af hr);have c1:=aa6 r hrl wr (HM.out.kept HB.out);have c2:=rG w HM.out p r HP.out hrl;have hd:=Jt r;have OI:Hid (FM p (kX L p k) k r=if dX p r=true∧(kX L p k).2<(jF r:Int) then ((k:Int),(jF r:Int)) else kX L p k):=cE rfl;clear hr hrl;generalize hn:jF r=n at*;generalize hu:dX p r=u at*;generalize hst:kX L p k=st at*;obtain⟨s1,s2⟩:=st;have arX:=cE hst;clear hn hu hst;dsimp only at hbd OI⊢;have C1:=cE c1;have C2:=cE c2;clear c1 c2;go_wp2_with fail
  refine C1.out.mono ?_;rintro e w1 ⟨a1,c1,rfl,B1⟩;have jk:=cE (HB.out.trans (B1.mono HB.out.size));clear B1;go_wp2_with fail
  refine(C2.out _ jk.out).mono ?_;rintro e w2 ⟨rfl,B2⟩;have iG:=cE B2;clear B2;cases u with
  |false=>
   have HF:Hid (kX L p (k+1)=(s1,s2)):=cE (by rw[HS.out,OI.out,if_neg cN]);clear HS OI;go_wp2
   go_roundw
   case rel=>exact⟨k+1,by omega,by go_num,by rw[HF.out],by rw[HF.out],iG⟩
   case measure=>simp[intOf];omega
  |true=>
  by_cases hgt:s2<(n:Int)
  ·have HF:Hid (kX L p (k+1)=((k:Int),(n:Int))):=cE (by rw[HS.out,OI.out,if_pos ⟨rfl,hgt⟩])
   have akG:decide (s2<(n:Int))=true:=by simpa using hgt
   clear HS OI;go_wp2
   go_roundw
   case rel=>exact⟨k+1,by omega,by go_num,by rw[HF.out],by rw[HF.out],iG⟩
   case measure=>simp[intOf];omega
  have HF:Hid (kX L p (k+1)=(s1,s2)):=cE (by rw[HS.out,OI.out,if_neg (fun h=>hgt h.2)]);have akG:decide (s2<(n:Int))=false:=by simpa using hgt
  clear HS OI;go_wp2
  go_roundw
  case rel=>exact⟨k+1,by omega,by go_num,by rw[HF.out],by rw[HF.out],iG⟩
  case measure=>simp[intOf];omega
 obtain rfl:k=N:=by omega
 generalize LQ:(kX L p k).1=s1 at*;generalize (kX L p k).2=s2 at*;have sR:=cE LQ;clear LQ;go_wp2
 go_ret
 exact⟨by rw[sR.out];rfl,HB.out⟩
theorem LG(f:cP→Bool)(ao:Option Addr)(c:Nat)(L:List cP)(w:an)(hbig:L.length≤1000)(hc:gA w w.heap.size ao L)
  (hF:∀W,cF w W→∀x∈L,ah prog 103 #[.s x] W fun en w'=>en=.returned (.bool (f x))∧cF W w'):
  ah prog 181 #[.slice ao L.length c,.func (.func 103) #[] #[]] w fun en w'=>(∃i,en=.returned (.i i)∧decide (0≤i)=L.any f)∧cF w w':=by
 have HC:=cE hc;have HF:=cE hF;clear hc hF;obtain⟨N,hN⟩:=cG L.length;have HN:=cE hN;rw[←hN] at hbig⊢;clear hN;go_enter func181,ntmps181
 go_wp2
 go_loopw [5,8] (fun _ i wr=>∃k:Nat,k≤N∧i=.i k∧Hid (∀j y,j<k→L[j]?=some y→f y=false)∧Hid (cF w wr)) (fun _ i _=>N - (intOf i).toNat)
 case atStart=>exact⟨0,by omega,rfl,cE (fun _ _ h=>absurd h (Nat.not_lt_zero _)),cE (ag _ _)⟩
 obtain⟨k,hk,rfl,HG,HB⟩:=hrel;by_cases hlt:k<N
 ·obtain⟨x,hx⟩:∃x,L[k]?=some x:=⟨_,aa (by rw[←HN.out];exact hlt)⟩
  obtain⟨b,off,rfl,hb,BQ⟩:=HC.out k x hx;have hcell:wr.cell? ⟨b,off+k,none⟩=some (.s x):=(HB.out.cell (p:=⟨b,off+k,none⟩) hb).trans BQ;have hcl:=HF.out wr HB.out x (af hx);have HX:=cE hx;have pZ:=cE hcl;clear hx BQ hcl;cases ho:f x with
  |false=>
   rw[ho] at pZ;have HO:=cE ho;clear ho;go_wp2_with fail
   refine pZ.out.mono ?_;rintro en w1 ⟨rfl,B1⟩;have jk:=cE (HB.out.trans (B1.mono HB.out.size));clear B1;go_wp2
   go_roundw
   case rel=>
    refine⟨k+1,by omega,by go_num,cE fun j y hj hy=>?_,jk⟩;by_cases e:j=k
    ·subst e
     have:=HX.out;rw[hy] at this;cases this;exact HO.out
    exact HG.out j y cL hy
   case measure=>simp[intOf];omega
  |true=>
  rw[ho] at pZ;have HT:Hid (L.any f=true):=cE (List.any_eq_true.2 ⟨x,af HX.out,ho⟩);clear ho;go_wp2_with fail
  refine pZ.out.mono ?_;rintro en w1 ⟨rfl,B1⟩;have jk:=cE (HB.out.trans (B1.mono HB.out.size));clear B1;go_wp2
  go_ret
  exact⟨⟨_,rfl,by rw[HT.out];simp⟩,jk.out⟩
 obtain rfl:k=N:=by omega
 have HT:Hid (L.any f=false):=cE (by
  rw[aq];intro y hy;obtain⟨j,hj,rfl⟩:=aj.1 hy;simp[HG.out j _ (by rw[HN.out];exact hj) (aa hj)])
 go_wp2
 go_ret
 exact⟨⟨_,rfl,by rw[HT.out];rfl⟩,HB.out⟩
theorem Dn(f:cP→Bool)(ao:Option Addr)(c:Nat)(L:List cP)(w:an)(hbig:L.length≤1000)(hc:gA w w.heap.size ao L)
  (hF:∀W,cF w W→∀x∈L,ah prog 103 #[.s x] W fun en w'=>en=.returned (.bool (f x))∧cF W w'):
  ah prog 71 #[.slice ao L.length c,.func (.func 103) #[] #[]] w fun en w'=>en=.returned (.bool (L.any f))∧cF w w':=by
 have hi:=LG f ao c L w hbig hc hF;clear hc hF;generalize L.any f=r at*;go_enter func71,ntmps71
 go_wp2_with (go_at_call 181;refine hi.mono ?_;rintro en w1 ⟨⟨i,rfl,hr⟩,B1⟩)
 go_ret
 exact⟨by rw[←hr];rfl,B1⟩
theorem TO(f:cP→Bool)(pl pa:Nat)(ao:Option Addr)(c:Nat)(L:List cP)(w:an)(hbig:L.length≤1000)(hc:gA w w.heap.size ao L)
  (hF:∀W,cF w W→∀x∈L,ah prog 72 #[.s x,.p pl,.p pa] W fun en w'=>en=.returned (.bool (f x))∧cF W w'):
  ah prog 181 #[.slice ao L.length c,.func (.func 72) #[] #[.p pl,.p pa]] w fun en w'=>(∃i,en=.returned (.i i)∧decide (0≤i)=L.any f)∧cF w w':=by
 have HC:=cE hc;have HF:=cE hF;clear hc hF;obtain⟨N,hN⟩:=cG L.length;have HN:=cE hN;rw[←hN] at hbig⊢;clear hN;go_enter func181,ntmps181
 go_wp2
 go_loopw [5,8] (fun _ i wr=>∃k:Nat,k≤N∧i=.i k∧Hid (∀j y,j<k→L[j]?=some y→f y=false)∧Hid (cF w wr)) (fun _ i _=>N - (intOf i).toNat)
 case atStart=>exact⟨0,by omega,rfl,cE (fun _ _ h=>absurd h (Nat.not_lt_zero _)),cE (ag _ _)⟩
 obtain⟨k,hk,rfl,HG,HB⟩:=hrel;by_cases hlt:k<N
 ·obtain⟨x,hx⟩:∃x,L[k]?=some x:=⟨_,aa (by rw[←HN.out];exact hlt)⟩
  obtain⟨b,off,rfl,hb,BQ⟩:=HC.out k x hx;have hcell:wr.cell? ⟨b,off+k,none⟩=some (.s x):=(HB.out.cell (p:=⟨b,off+k,none⟩) hb).trans BQ;have hcl:=HF.out wr HB.out x (af hx);have HX:=cE hx;have pZ:=cE hcl;clear hx BQ hcl;cases ho:f x with
  |false=>
   rw[ho] at pZ;have HO:=cE ho;clear ho;go_wp2_with fail
   refine pZ.out.mono ?_;rintro en w1 ⟨rfl,B1⟩;have jk:=cE (HB.out.trans (B1.mono HB.out.size));clear B1;go_wp2
   go_roundw
   case rel=>
    refine⟨k+1,by omega,by go_num,cE fun j y hj hy=>?_,jk⟩;by_cases e:j=k
    ·subst e
     have:=HX.out;rw[hy] at this;cases this;exact HO.out
    exact HG.out j y cL hy
   case measure=>simp[intOf];omega
  |true=>
  rw[ho] at pZ;have HT:Hid (L.any f=true):=cE (List.any_eq_true.2 ⟨x,af HX.out,ho⟩);clear ho;go_wp2_with fail
  refine pZ.out.mono ?_;rintro en w1 ⟨rfl,B1⟩;have jk:=cE (HB.out.trans (B1.mono HB.out.size));clear B1;go_wp2
  go_ret
  exact⟨⟨_,rfl,by rw[HT.out];simp⟩,jk.out⟩
 obtain rfl:k=N:=by omega
 have HT:Hid (L.any f=false):=cE (by
  rw[aq];intro y hy;obtain⟨j,hj,rfl⟩:=aj.1 hy;simp[HG.out j _ (by rw[HN.out];exact hj) (aa hj)])
 go_wp2
 go_ret
 exact⟨⟨_,rfl,by rw[HT.out];rfl⟩,HB.out⟩
theorem zE(f:cP→Bool)(pl pa:Nat)(ao:Option Addr)(c:Nat)(L:List cP)(w:an)(hbig:L.length≤1000)(hc:gA w w.heap.size ao L)
  (hF:∀W,cF w W→∀x∈L,ah prog 72 #[.s x,.p pl,.p pa] W fun en w'=>en=.returned (.bool (f x))∧cF W w'):
  ah prog 71 #[.slice ao L.length c,.func (.func 72) #[] #[.p pl,.p pa]] w fun en w'=>en=.returned (.bool (L.any f))∧cF w w':=by
 have hi:=TO f pl pa ao c L w hbig hc hF;clear hc hF;generalize L.any f=r at*;go_enter func71,ntmps71
 go_wp2_with (go_at_call 181;refine hi.mono ?_;rintro en w1 ⟨⟨i,rfl,hr⟩,B1⟩)
 go_ret
 exact⟨by rw[←hr];rfl,B1⟩
end
