/- Part 15. -/
import Derived.Test.YtdpaejbaoefdjaaGreatDoorG12
import Derived.Test.YtdpaejbaoefdjaaGreatDoorG14
open List renaming getElem?_eq_getElem → aa,mem_of_getElem? → af,mem_iff_getElem → aj,any_eq_false → aq
open Go.RowKit.Below renaming refl → ag
open Go renaming Calls → ah,World → an
namespace Go.Proofs.YtdpaejbaoefdjaaGreatDoor
open Go.Proofs.Tryz
set_option maxRecDepth 100000
set_option maxHeartbeats 64000000
set_option linter.unusedVariables false
set_option linter.unusedSimpArgs false
section
open Go.RowKit
def Xd(n:Nat)(w:an)(e:Ending)(w':an):Prop:=∃a c,e=.returned (.slice a n c)∧cE w w'
theorem Zw(l:cO)(hl:l.length≤1000)(w:an)(hm:dM w):ah prog 179 #[.s l] w (Xd (jH l) w):=by
 unfold jH;cases h:dG l with
 |none=>exact(J1 l h (o5 hl (Nat.le_refl _)) w hm).mono fun e w' ⟨he,hb⟩=>⟨_,_,he,hb⟩
 |some L=>
 cases L with
 |nil=>exact(Od l h w).mono fun e w' ⟨he,hb⟩=>⟨_,_,he,hb▸ag _ _⟩
 |cons x L=>exact(J0 l (x::L) h cM w hm).mono fun e w' ⟨he,_,hb⟩=>⟨_,_,he,hb⟩
theorem xq(ao:Option Addr)(c:Nat)(L:List cO)(p:cO)(w:an)(hm:dM w)(hbig:L.length≤1000)(hp:p.length≤1000)(hL:∀r∈L,r.length≤1000)(hc:gZ w w.heap.size ao L):
  ah prog 70 #[.slice ao L.length c,.s p] w fun e w'=>e=.returned (.i (zL L p))∧cE w w':=by
 have HC:=cD hc;have HM:=cD hm;have HL:=cD hL;have HP:=cD hp;clear hc hm hL hp;obtain⟨N,hN⟩:=cF L.length;have HN:=cD hN;unfold zL;rw[←hN] at hbig⊢;clear hN;go_enter func70,ntmps70
 go_wp2
 go_loopw [5,6,12] (fun b m i wr=>∃k:Nat,k≤N∧i=.i k∧b=.i (kZ L p k).1∧m=.i (kZ L p k).2∧Hid (cE w wr)) (fun _ _ i _=>N - (intOf i).toNat)
 case atStart=>exact⟨0,by omega,rfl,rfl,rfl,cD (ag _ _)⟩
 obtain⟨k,hk,rfl,rfl,rfl,HB⟩:=hrel;have hbd:=VF L p k (by rw[←HN.out];exact hk);by_cases hlt:k<N
 ·obtain⟨r,hr⟩:∃r,L[k]?=some r:=⟨_,aa (by rw[←HN.out];exact hlt)⟩
  obtain⟨b,off,rfl,hb,hcell⟩:=HC.out k r hr;have hcell:wr.cell? ⟨b,off+k,none⟩=some (.s r):=(HB.out.cell (p:=⟨b,off+k,none⟩) hb).trans hcell;have HS:=cD (Dh (p:=p) hr);have hrl:=HL.out r (af hr);have c1:=Zw r hrl wr (HM.out.kept HB.out);have c2:=ry w HM.out p r HP.out hrl;have hd:=ID r;have Jl:Hid (EN p (kZ L p k) k r=if eB p r=true∧(kZ L p k).2<(jH r:Int) then ((k:Int),(jH r:Int)) else kZ L p k):=cD rfl;clear hr hrl;generalize hn:jH r=n at*;generalize hu:eB p r=u at*;generalize hst:kZ L p k=st at*;obtain⟨s1,s2⟩:=st;have aql:=cD hst;clear hn hu hst;dsimp only at hbd Jl⊢;have C1:=cD c1;have C2:=cD c2;clear c1 c2;go_wp2_with fail
  refine C1.out.mono ?_;rintro e w1 ⟨a1,c1,rfl,B1⟩;have jT:=cD (HB.out.trans (B1.mono HB.out.size));clear B1;go_wp2_with fail
  refine(C2.out _ jT.out).mono ?_;rintro e w2 ⟨rfl,B2⟩;have iK:=cD B2;clear B2;cases u with
  |false=>
   have HF:Hid (kZ L p (k+1)=(s1,s2)):=cD (by rw[HS.out,Jl.out,if_neg cM]);clear HS Jl;go_wp2
   go_roundw
   case rel=>exact⟨k+1,by omega,by go_num,by rw[HF.out],by rw[HF.out],iK⟩
   case measure=>simp[intOf];omega
  |true=>
  by_cases hgt:s2<(n:Int)
  ·have HF:Hid (kZ L p (k+1)=((k:Int),(n:Int))):=cD (by rw[HS.out,Jl.out,if_pos ⟨rfl,hgt⟩])
   have aiK:decide (s2<(n:Int))=true:=by simpa using hgt
   clear HS Jl;go_wp2
   go_roundw
   case rel=>exact⟨k+1,by omega,by go_num,by rw[HF.out],by rw[HF.out],iK⟩
   case measure=>simp[intOf];omega
  have HF:Hid (kZ L p (k+1)=(s1,s2)):=cD (by rw[HS.out,Jl.out,if_neg (fun h=>hgt h.2)]);have aiK:decide (s2<(n:Int))=false:=by simpa using hgt
  clear HS Jl;go_wp2
  go_roundw
  case rel=>exact⟨k+1,by omega,by go_num,by rw[HF.out],by rw[HF.out],iK⟩
  case measure=>simp[intOf];omega
 obtain rfl:k=N:=by omega
 generalize Ku:(kZ L p k).1=s1 at*;generalize (kZ L p k).2=s2 at*;have sH:=cD Ku;clear Ku;go_wp2
 go_ret
 exact⟨by rw[sH.out];rfl,HB.out⟩
theorem Km(f:cO→Bool)(ao:Option Addr)(c:Nat)(L:List cO)(w:an)(hbig:L.length≤1000)(hc:gZ w w.heap.size ao L)
  (hF:∀W,cE w W→∀x∈L,ah prog 103 #[.s x] W fun en w'=>en=.returned (.bool (f x))∧cE W w'):
  ah prog 181 #[.slice ao L.length c,.func (.func 103) #[] #[]] w fun en w'=>(∃i,en=.returned (.i i)∧decide (0≤i)=L.any f)∧cE w w':=by
 have HC:=cD hc;have HF:=cD hF;clear hc hF;obtain⟨N,hN⟩:=cF L.length;have HN:=cD hN;rw[←hN] at hbig⊢;clear hN;go_enter func181,ntmps181
 go_wp2
 go_loopw [5,8] (fun _ i wr=>∃k:Nat,k≤N∧i=.i k∧Hid (∀j y,j<k→L[j]?=some y→f y=false)∧Hid (cE w wr)) (fun _ i _=>N - (intOf i).toNat)
 case atStart=>exact⟨0,by omega,rfl,cD (fun _ _ h=>absurd h (Nat.not_lt_zero _)),cD (ag _ _)⟩
 obtain⟨k,hk,rfl,HG,HB⟩:=hrel;by_cases hlt:k<N
 ·obtain⟨x,hx⟩:∃x,L[k]?=some x:=⟨_,aa (by rw[←HN.out];exact hlt)⟩
  obtain⟨b,off,rfl,hb,AZ⟩:=HC.out k x hx;have hcell:wr.cell? ⟨b,off+k,none⟩=some (.s x):=(HB.out.cell (p:=⟨b,off+k,none⟩) hb).trans AZ;have hcl:=HF.out wr HB.out x (af hx);have HX:=cD hx;have pT:=cD hcl;clear hx AZ hcl;cases ho:f x with
  |false=>
   rw[ho] at pT;have HO:=cD ho;clear ho;go_wp2_with fail
   refine pT.out.mono ?_;rintro en w1 ⟨rfl,B1⟩;have jT:=cD (HB.out.trans (B1.mono HB.out.size));clear B1;go_wp2
   go_roundw
   case rel=>
    refine⟨k+1,by omega,by go_num,cD fun j y hj hy=>?_,jT⟩;by_cases e:j=k
    ·subst e
     have:=HX.out;rw[hy] at this;cases this;exact HO.out
    exact HG.out j y cK hy
   case measure=>simp[intOf];omega
  |true=>
  rw[ho] at pT;have HT:Hid (L.any f=true):=cD (List.any_eq_true.2 ⟨x,af HX.out,ho⟩);clear ho;go_wp2_with fail
  refine pT.out.mono ?_;rintro en w1 ⟨rfl,B1⟩;have jT:=cD (HB.out.trans (B1.mono HB.out.size));clear B1;go_wp2
  go_ret
  exact⟨⟨_,rfl,by rw[HT.out];simp⟩,jT.out⟩
 obtain rfl:k=N:=by omega
 have HT:Hid (L.any f=false):=cD (by
  rw[aq];intro y hy;obtain⟨j,hj,rfl⟩:=aj.1 hy;simp[HG.out j _ (by rw[HN.out];exact hj) (aa hj)])
 go_wp2
 go_ret
 exact⟨⟨_,rfl,by rw[HT.out];rfl⟩,HB.out⟩
theorem CG(f:cO→Bool)(ao:Option Addr)(c:Nat)(L:List cO)(w:an)(hbig:L.length≤1000)(hc:gZ w w.heap.size ao L)
  (hF:∀W,cE w W→∀x∈L,ah prog 103 #[.s x] W fun en w'=>en=.returned (.bool (f x))∧cE W w'):
  ah prog 71 #[.slice ao L.length c,.func (.func 103) #[] #[]] w fun en w'=>en=.returned (.bool (L.any f))∧cE w w':=by
 have hi:=Km f ao c L w hbig hc hF;clear hc hF;generalize L.any f=r at*;go_enter func71,ntmps71
 go_wp2_with (go_at_call 181;refine hi.mono ?_;rintro en w1 ⟨⟨i,rfl,hr⟩,B1⟩)
 go_ret
 exact⟨by rw[←hr];rfl,B1⟩
theorem Sk(f:cO→Bool)(pl pa:Nat)(ao:Option Addr)(c:Nat)(L:List cO)(w:an)(hbig:L.length≤1000)(hc:gZ w w.heap.size ao L)
  (hF:∀W,cE w W→∀x∈L,ah prog 72 #[.s x,.p pl,.p pa] W fun en w'=>en=.returned (.bool (f x))∧cE W w'):
  ah prog 181 #[.slice ao L.length c,.func (.func 72) #[] #[.p pl,.p pa]] w fun en w'=>(∃i,en=.returned (.i i)∧decide (0≤i)=L.any f)∧cE w w':=by
 have HC:=cD hc;have HF:=cD hF;clear hc hF;obtain⟨N,hN⟩:=cF L.length;have HN:=cD hN;rw[←hN] at hbig⊢;clear hN;go_enter func181,ntmps181
 go_wp2
 go_loopw [5,8] (fun _ i wr=>∃k:Nat,k≤N∧i=.i k∧Hid (∀j y,j<k→L[j]?=some y→f y=false)∧Hid (cE w wr)) (fun _ i _=>N - (intOf i).toNat)
 case atStart=>exact⟨0,by omega,rfl,cD (fun _ _ h=>absurd h (Nat.not_lt_zero _)),cD (ag _ _)⟩
 obtain⟨k,hk,rfl,HG,HB⟩:=hrel;by_cases hlt:k<N
 ·obtain⟨x,hx⟩:∃x,L[k]?=some x:=⟨_,aa (by rw[←HN.out];exact hlt)⟩
  obtain⟨b,off,rfl,hb,AZ⟩:=HC.out k x hx;have hcell:wr.cell? ⟨b,off+k,none⟩=some (.s x):=(HB.out.cell (p:=⟨b,off+k,none⟩) hb).trans AZ;have hcl:=HF.out wr HB.out x (af hx);have HX:=cD hx;have pT:=cD hcl;clear hx AZ hcl;cases ho:f x with
  |false=>
   rw[ho] at pT;have HO:=cD ho;clear ho;go_wp2_with fail
   refine pT.out.mono ?_;rintro en w1 ⟨rfl,B1⟩;have jT:=cD (HB.out.trans (B1.mono HB.out.size));clear B1;go_wp2
   go_roundw
   case rel=>
    refine⟨k+1,by omega,by go_num,cD fun j y hj hy=>?_,jT⟩;by_cases e:j=k
    ·subst e
     have:=HX.out;rw[hy] at this;cases this;exact HO.out
    exact HG.out j y cK hy
   case measure=>simp[intOf];omega
  |true=>
  rw[ho] at pT;have HT:Hid (L.any f=true):=cD (List.any_eq_true.2 ⟨x,af HX.out,ho⟩);clear ho;go_wp2_with fail
  refine pT.out.mono ?_;rintro en w1 ⟨rfl,B1⟩;have jT:=cD (HB.out.trans (B1.mono HB.out.size));clear B1;go_wp2
  go_ret
  exact⟨⟨_,rfl,by rw[HT.out];simp⟩,jT.out⟩
 obtain rfl:k=N:=by omega
 have HT:Hid (L.any f=false):=cD (by
  rw[aq];intro y hy;obtain⟨j,hj,rfl⟩:=aj.1 hy;simp[HG.out j _ (by rw[HN.out];exact hj) (aa hj)])
 go_wp2
 go_ret
 exact⟨⟨_,rfl,by rw[HT.out];rfl⟩,HB.out⟩
theorem yP(f:cO→Bool)(pl pa:Nat)(ao:Option Addr)(c:Nat)(L:List cO)(w:an)(hbig:L.length≤1000)(hc:gZ w w.heap.size ao L)
  (hF:∀W,cE w W→∀x∈L,ah prog 72 #[.s x,.p pl,.p pa] W fun en w'=>en=.returned (.bool (f x))∧cE W w'):
  ah prog 71 #[.slice ao L.length c,.func (.func 72) #[] #[.p pl,.p pa]] w fun en w'=>en=.returned (.bool (L.any f))∧cE w w':=by
 have hi:=Sk f pl pa ao c L w hbig hc hF;clear hc hF;generalize L.any f=r at*;go_enter func71,ntmps71
 go_wp2_with (go_at_call 181;refine hi.mono ?_;rintro en w1 ⟨⟨i,rfl,hr⟩,B1⟩)
 go_ret
 exact⟨by rw[←hr];rfl,B1⟩
end
