/- Part 31. -/
import Derived.Test.YtdpaejbaoefdjaaGreatDoorG30
open Bool renaming and_eq_false_iff → aa
open List renaming getElem?_eq_getElem → af
namespace Go.Proofs.YtdpaejbaoefdjaaGreatDoor
open Go.Proofs.Tryz
set_option maxRecDepth 100000
set_option maxHeartbeats 64000000
set_option linter.unusedVariables false
set_option linter.unusedSimpArgs false
section
open Go.RowKit Go.Shelf Go.MapKept Go.ChangeMaps
theorem MC:∀{A B:List Nat},A.length=B.length→(∀(i:Nat) x y,A[i]?=some x→B[i]?=some y→x≤y)→kI A B=true
 |[],[],_,_=>rfl
 |[],_::_,h,_=>by simp at h
 |_::_,[],h,_=>by simp at h
 |x::A,y::B,h,k=>by
  simp only[kI,Bool.and_eq_true,decide_eq_true_eq];exact⟨k 0 x y rfl rfl,MC (by simpa using h) (fun i a b ha hb=>k (i+1) a b ha hb)⟩
theorem Hg:∀{A B:List Nat} {i x y:Nat},A[i]?=some x→B[i]?=some y→y<x→kI A B=false
 |[],_,i,x,y,h,_,_=>by simp at h
 |_::_,[],i,x,y,_,h,_=>by simp at h
 |a::A,b::B,0,x,y,h,k,l=>by
  simp at h k;subst h k;simp only[kI,aa,decide_eq_false_iff_not];exact .inl cK
 |a::A,b::B,i+1,x,y,h,k,l=>by
  simp only[kI,aa];exact .inr (Hg (by simpa using h) (by simpa using k) l)
theorem MD:∀{A B:List Nat},A.length≠B.length→kI A B=false
 |[],[],h=>absurd rfl h
 |[],_::_,_=>rfl
 |_::_,[],_=>rfl
 |x::A,y::B,h=>by
  simp only[kI,aa];exact .inr (MD (by simpa using h))
def LK(V1 V2:List Nat)(w:World)(e:Ending)(w':World):Prop:=e=.returned (.bool (kI V1 V2))∧cE w w'
theorem Dm(w:World)(a1 a2:Option Addr)(c1 c2:Nat)(V1 V2:List Nat)(lo1 OK:Nat→Prop)(hl1:V1.length≤1000)(h1:dK w lo1 a1 V1)(h2:dK w OK a2 V2):
  Calls prog 108 #[.slice a1 V1.length c1,.slice a2 V2.length c2] w (LK V1 V2 w):=by
 obtain⟨n1,zN⟩:∃n,n=V1.length:=⟨_,rfl⟩;obtain⟨n2,hn2⟩:∃n,n=V2.length:=⟨_,rfl⟩;have HN:=cD (cC zN (cC hn2 (cC h1 h2)));have aoL:n1≤1000:=by omega
 rw[←zN,←hn2];clear zN hn2 h1 h2 hl1;by_cases hne:n1=n2
 ·subst hne
  go_enter func108,ntmps108
  go_wp2_with fail
  go_loopw [5] (fun iv wr=>∃k:Nat,k≤n1∧iv=.i k∧Hid (cE w wr∧∀(i:Nat) x y,i<k→V1[i]?=some x→V2[i]?=some y→x≤y)) (fun iv _=>n1 - (intOf iv).toNat)
  case atStart=>exact⟨0,by omega,rfl,cD ⟨Below.refl _ _,fun i x y h=>absurd h (Nat.not_lt_zero _)⟩⟩
  obtain⟨k,hk,rfl,HS⟩:=hrel;by_cases hlt:k<n1
  ·obtain⟨x,hx⟩:∃x,V1[k]?=some x:=⟨_,af (by rw[←HN.out.1];exact hlt)⟩
   obtain⟨y,hy⟩:∃y,V2[k]?=some y:=⟨_,af (by rw[←HN.out.2.1];exact hlt)⟩;obtain⟨b1,o1,rfl,_,dB,hc1⟩:=HN.out.2.2.1 k x hx;obtain⟨b2,o2,rfl,_,dI,hc2⟩:=HN.out.2.2.2 k y hy;have y1:=(HS.out.1.cell (p:=⟨b1,o1+k,none⟩) dB).trans hc1;have y2:=(HS.out.1.cell (p:=⟨b2,o2+k,none⟩) dI).trans hc2;have HXY:=cD (cC hx hy);clear hx hy dB hc1 dI hc2;have tlt:decide ((k:Int)<(n1:Int))=true:=by simp;omega
   by_cases hyx:y<x
   ·have t1:decide ((y:Int)<(x:Int))=true:=by simp;omega
    have HYX:=cD hyx;clear hyx;go_wp2_with fail
    go_quiet (fail)
    go_wp2_with fail
    go_ret
    exact⟨by rw[Hg HXY.out.1 HXY.out.2 HYX.out];rfl,(HS.out.1.trans (((cQ.refl (fun _=>False) wr).drewN nq).below HS.out.1.size (fun k e=>e.elim)))⟩
   have t1:decide ((y:Int)<(x:Int))=false:=by simp;omega
   have HYX:=cD hyx;clear hyx;go_wp2_with fail
   go_quiet (fail)
   go_wp2_with fail
   go_roundw
   case rel=>
    refine⟨k+1,by omega,by go_num,cD ⟨(HS.out.1.trans (((cQ.refl (fun _=>False) wr).drewN nq).below HS.out.1.size (fun k e=>e.elim))),fun i u v hi hu hv=>?_⟩⟩;rcases Nat.lt_or_ge i k with h|h
    ·exact HS.out.2 i u v h hu hv
    obtain rfl:i=k:=by omega
    rw[HXY.out.1] at hu;rw[HXY.out.2] at hv;cases hu;cases hv;have:=HYX.out;omega
   case measure=>simp[intOf];omega
  obtain rfl:k=n1:=by omega
  go_wp2_with fail
  go_ret
  refine⟨by rw[MC (by rw[←HN.out.1,←HN.out.2.1]) (fun i x y hx hy=>HS.out.2 i x y (by rw[HN.out.1];exact(List.getElem?_eq_some_iff.1 hx).1) hx hy)];rfl,HS.out.1⟩
 have HL:Hid (kI V1 V2=false):=cD (MD (by rw[←HN.out.1,←HN.out.2.1];exact hne));go_enter func108,ntmps108
 go_wp2_with fail
 go_ret
 exact⟨by rw[HL.out];rfl,Below.refl _ _⟩
theorem An(w:World)(a1 a2:Option Addr)(c1 c2:Nat)(V1 V2:List Nat)(lo1 OK:Nat→Prop)(hl1:V1.length≤1000)(hl2:V2.length≤1000)(h1:dK w lo1 a1 V1)(h2:dK w OK a2 V2):
  Calls prog 48 #[.slice a1 V1.length c1,.slice a2 V2.length c2] w fun e w'=>e=.returned (.bool (kI V1 V2&&kI V2 V1))∧cE w w':=by
 have HA:=cD (Dm w a1 a2 c1 c2 V1 V2 lo1 OK hl1 h1 h2);have HB:Hid (∀W,cE w W→Calls prog 108 #[.slice a2 V2.length c2,.slice a1 V1.length c1] W (LK V2 V1 W)):=cD (fun W hW=>Dm W a2 a1 c2 c1 V2 V1 OK lo1 hl2 (h2.below hW) (h1.below hW));obtain⟨n1,zN⟩:∃n,n=V1.length:=⟨_,rfl⟩;obtain⟨n2,hn2⟩:∃n,n=V2.length:=⟨_,rfl⟩;obtain⟨p,hp⟩:=cF (kI V1 V2);obtain⟨q,hq⟩:=cF (kI V2 V1);rw[←zN,←hn2] at HA HB⊢;unfold LK at HA HB;rw[←hp] at HA⊢;rw[←hq] at HB⊢;clear h1 h2 zN hn2 hp hq;go_enter func48,ntmps48
 go_wp2_with fail
 refine HA.out.mono ?_;rintro e w1 ⟨rfl,dB⟩;have jT:=cD dB;clear dB;cases p with
 |false=>
  go_wp2_with fail
  go_ret
  exact⟨rfl,jT.out⟩
 |true=>
 go_wp2_with fail
 refine(HB.out w1 jT.out).mono ?_;rintro e w2 ⟨rfl,dI⟩;have iK:=cD (jT.out.trans (dI.mono jT.out.size));clear dI;go_wp2_with fail
 go_ret
 exact⟨by simp,iK.out⟩
end
