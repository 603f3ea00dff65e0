/- Part 12. -/
import Derived.Test.YtdpaejbaoefdjaaGreatDoorG11
import Derived.Maps.AppendAt
import Derived.ProofKit
open List renaming getElem?_eq_getElem → aa,length_pos_iff → au,dropLast_concat → aC,take_add_one → aG
open Go renaming World → af,Calls → aq,Value → ay
open Bool renaming and_eq_true → ag,false_and → aA,false_eq_true → aF
open Nat renaming lt_succ_iff_lt_or_eq → ah,le_refl → aj
open Array renaming getElem?_append → an
open Go.Utf8 renaming decode → aB
open ByteArray renaming empty → aD
open Go.RowKit.Below renaming refl → aE
namespace Go.Proofs.YtdpaejbaoefdjaaGreatDoor
open Go.Proofs.Tryz
set_option maxRecDepth 100000
set_option maxHeartbeats 64000000
set_option linter.unusedVariables false
set_option linter.unusedSimpArgs false
section
open Go.RowKit
theorem E0:(prog.info? 9).map (fun i=>(i.zero,i.size,i.bytes))=some (some (.string aD),1,16):=by kernel_rfl
def sv(x:cO):ay:=.s x
theorem Y8(L:List cO):∀u∈L.map sv,u.oneCell'=true:=by
 intro u hu;obtain⟨_,_,rfl⟩:=List.mem_map.1 hu;rfl
theorem Of{w:af}{base:Nat}{v:ay}{n:Nat}{L:List cO}(h:w.ownsRow base 9 1 v n (L.map sv)):
  (v=.n∧L=[])∨∃g cap,v=.slice (some ⟨g,0,none⟩) L.length cap∧L.length≤cap∧base≤g∧g<w.heap.size∧uw w g 0 L:=by
 have hl:L.length=n:=by have:=h.1;simpa using this
 subst hl;rcases h.2 with ⟨rfl,h0⟩|⟨g,cap,cur,rfl,yG,hg,hnc,hcm,hsz,O3⟩
 ·exact .inl ⟨rfl,List.eq_nil_of_length_eq_zero h0⟩
 refine .inr ⟨g,cap,rfl,hnc,yG,(Array.getElem?_eq_some_iff.1 hg).1,fun j x hx=>?_⟩;have hcs:=h.cells (g:=g) rfl j (sv x) (by simp[hx]);rw[Addr.add_lit] at hcs;exact hcs
def IV(w:af)(ok:Bool)(e:Ending)(w':af):Prop:=∃v,e=.returned (.tuple #[v,.bool ok])∧cE w w'
theorem Gc(l:cO)(L:List cO)(h:dG l=some L)(w:af)(hm:dM w):aq prog 118 #[.s l] w (IV w true):=by
 cases L with
 |nil=>exact(jr l h w).mono fun e w' ⟨he,hw⟩=>⟨_,he,hw▸aE _ _⟩
 |cons x L=>exact(ig l (x::L) h cM w hm).mono fun e w' ⟨he,_,hb⟩=>⟨_,he,hb⟩
theorem NL(l:cO)(hs:(bs l).size≤9223372036854775807)(w:af)(hm:dM w):aq prog 118 #[.s l] w (IV w (dG l).isSome):=by
 cases h:dG l with
 |none=>exact jU l h hs w hm
 |some L=>exact Gc l L h w hm
def eB(p q:cO):Bool:=
 match dG p,dG q with
 |some l,some m=>decide (m.length≤l.length)&&decide (l.take m.length=m)
 |_,_=>false
theorem TO{a b:cO}(h:bs a=bs b):a=b:=by rw[←gU a,h,gU]
theorem AN:∀{L M:List cO},L.map bs=M.map bs→L=M
 |[],[],_=>rfl
 |[],_::_,h=>by cases h
 |_::_,[],h=>by cases h
 |x::L,y::M,h=>by
  simp only[List.map_cons,List.cons.injEq] at h;rw[TO h.1,AN h.2]
theorem Fm(L:List cO)(j:Nat)(hj:j<(L.map bs).length):(L.map bs).getD j aD=bs (L[j]'(by simpa using hj)):=by
 simp[List.getD_eq_getElem?_getD,aa (show j<L.length by simpa using hj)]
theorem Pw(b1 c b2 d:Nat)(l m:List cO)(w:af)(h1:uw w b1 0 l)(h2:uw w b2 0 m)(hl:l.length≤1000)(hm:m.length≤l.length):
  aq prog 96 #[.slice (some ⟨b1,0,none⟩) m.length c,.slice (some ⟨b2,0,none⟩) m.length d] w fun e w'=>e=.returned (.bool (decide (l.take m.length=m)))∧∃q,w'=w.drewN q:=by
 have h:=slices_Equal_string b1 0 m.length c b2 0 m.length d (l.map bs) (m.map bs) w (by simpa using hm) cM cK cK
  (fun j hj=>by rw[Fm l j hj];exact h1 j _ (aa _)) (fun j hj=>by rw[Fm m j hj];exact h2 j _ (aa _))
 have e:decide ((l.map bs).take m.length=(m.map bs).take m.length)=decide (l.take m.length=m):=by
  rw[decide_eq_decide];have:(m.map bs).take m.length=m.map bs:=List.take_of_length_le cM;rw[this,←List.map_take];exact⟨AN,fun h=>by rw[h]⟩
 rw[e] at h;exact h
theorem QW(p q:cO)(hp:(bs p).size≤9223372036854775807)(hq:(bs q).size≤9223372036854775807)(h:dG p=none)(w:af)(hm:dM w):
  aq prog 180 #[.s p,.s q] w fun e w'=>e=.returned (.F)∧cE w w':=by
 have h1:=jU p h hp w hm;have h2:=fun(W:af) (hW:cE w W)=>NL q hq W (hm.kept hW)
 have H2:=cD h2;clear h2 h hm;generalize (dG q).isSome=ok at*;go_enter func180,ntmps180
 go_wp2_with fail
 refine h1.mono ?_;rintro e w1 ⟨v,rfl,B1⟩;go_wp2_with fail
 refine(H2.out _ B1).mono ?_;rintro e w2 ⟨v2,rfl,B2⟩;have HB:=cD (B1.trans (B2.mono B1.size));clear B1 B2;go_wp2
 go_ret
 exact⟨rfl,HB.out⟩
theorem QV(p q:cO)(L:List cO)(hq:(bs q).size≤9223372036854775807)(h:dG p=some L)(h0:dG q=none)(w:af)(hm:dM w):
  aq prog 180 #[.s p,.s q] w fun e w'=>e=.returned (.F)∧cE w w':=by
 have h1:=Gc p L h w hm;have h2:=fun(W:af) (hW:cE w W)=>jU q h0 hq W (hm.kept hW)
 have H2:=cD h2;clear h2 h hm h0;go_enter func180,ntmps180
 go_wp2_with fail
 refine h1.mono ?_;rintro e w1 ⟨v,rfl,B1⟩;go_wp2_with fail
 refine(H2.out _ B1).mono ?_;rintro e w2 ⟨v2,rfl,B2⟩;have HB:=cD (B1.trans (B2.mono B1.size));clear B1 B2;go_wp2
 go_ret
 exact⟨rfl,HB.out⟩
theorem QS(p q:cO)(h:dG p=some [])(h0:dG q=some [])(w:af):
  aq prog 180 #[.s p,.s q] w fun e w'=>e=.returned (.T)∧cE w w':=by
 have h1:=jr p h w;have h2:=jr q h0 w;have h3:=slices_Equal_string_empty none none 0 0 0 w cK;clear h h0;go_enter func180,ntmps180
 go_wp2_with fail
 refine h1.mono ?_;rintro e w1 ⟨rfl,rfl⟩;go_wp2_with fail
 refine h2.mono ?_;rintro e w1 ⟨rfl,rfl⟩;go_wp2_with fail
 refine h3.mono ?_;rintro e w1 ⟨rfl,hw1⟩;subst w1;go_wp2
 go_ret
 exact⟨rfl,aE _ _⟩
theorem QN(p q:cO)(L:List cO)(h:dG p=some L)(hL:L≠[])(h0:dG q=some [])(w:af)(hm:dM w):
  aq prog 180 #[.s p,.s q] w fun e w'=>e=.returned (.T)∧cE w w':=by
 have h1:=ig p L h hL w hm;have h2:=jr q h0;have h3:=slices_Equal_string_empty (some ⟨w.heap.size,0,none⟩) none L.length 0 0;have hl:=iT h;clear h h0 hm hL;generalize L.length=n at*;go_enter func180,ntmps180
 go_wp2_with fail
 refine h1.mono ?_;rintro e w1 ⟨rfl,_,B1⟩;go_wp2_with fail
 refine(h2 _).mono ?_;rintro e w2 ⟨rfl,rfl⟩;go_wp2_with fail
 refine(h3 _ cK).mono ?_;rintro e w3 ⟨rfl,kJ⟩;subst w3;go_wp2
 go_ret
 exact⟨rfl,B1⟩
theorem QO(p q:cO)(M:List cO)(h:dG p=some [])(hM:M≠[])(h0:dG q=some M)(w:af)(hm:dM w):
  aq prog 180 #[.s p,.s q] w fun e w'=>e=.returned (.F)∧cE w w':=by
 have h1:=jr p h w;have h2:=ig q M h0 hM w hm;have hl:=iT h0;have hp:0<M.length:=au.2 hM;clear h h0 hm hM;generalize M.length=n at*;go_enter func180,ntmps180
 go_wp2_with fail
 refine h1.mono ?_;rintro e w1 ⟨rfl,rfl⟩;go_wp2_with fail
 refine h2.mono ?_;rintro e w1 ⟨rfl,_,B1⟩;go_wp2
 go_ret
 exact⟨rfl,B1⟩
theorem QU(p q:cO)(L M:List cO)(h:dG p=some L)(hL:L≠[])(h0:dG q=some M)(hgt:L.length<M.length)(w:af)(hm:dM w):
  aq prog 180 #[.s p,.s q] w fun e w'=>e=.returned (.F)∧cE w w':=by
 have h1:=ig p L h hL w hm;have h2:=fun(W:af) (hW:cE w W)=>ig q M h0 (fun e=>by rw[e] at hgt;simp at hgt) W (hm.kept hW)
 have H2:=cD h2;have hl:=iT h;have hl2:=iT h0;clear h h0 hm hL h2;generalize L.length=n at*;generalize M.length=k at*;go_enter func180,ntmps180
 go_wp2_with fail
 refine h1.mono ?_;rintro e w1 ⟨rfl,_,B1⟩;go_wp2_with fail
 refine(H2.out _ B1).mono ?_;rintro e w2 ⟨rfl,_,B2⟩;have HB:=cD (B1.trans (B2.mono B1.size));clear B1 B2;go_wp2
 go_ret
 exact⟨rfl,HB.out⟩
theorem QT(p q:cO)(L M:List cO)(h:dG p=some L)(hM:M≠[])(h0:dG q=some M)(hle:M.length≤L.length)(w:af)(hm:dM w):
  aq prog 180 #[.s p,.s q] w fun e w'=>e=.returned (.bool (decide (L.take M.length=M)))∧cE w w':=by
 have hp:0<M.length:=au.2 hM;have h1:=ig p L h (fun e=>by rw[e] at hle;simp at hle;exact hM hle) w hm;have h2:=fun(W:af) (hW:cE w W)=>ig q M h0 hM W (hm.kept hW)
 have H2:=cD h2;have hl:=iT h;have hl2:=iT h0;have h3:=fun(W:af) (g:Nat) (a:qw W w.heap.size L) (b:qw W g M)=>Pw w.heap.size L.length g M.length L M W a.at b.at cK hle
 have H3:=cD h3;clear h h0 hm h2 h3 hM;generalize decide (L.take M.length=M)=r at*;generalize hn:L.length=n at*;generalize hk:M.length=k at*;clear hn hk;go_enter func180,ntmps180
 go_wp2_with fail
 refine h1.mono ?_;rintro e w1 ⟨rfl,A1,B1⟩;go_wp2_with fail
 refine(H2.out _ B1).mono ?_;rintro e w2 ⟨rfl,A2,B2⟩;have h3:=H3.out w2 w1.heap.size (A1.kept B2 A1.lt) A2;have HB:=cD (B1.trans (B2.mono B1.size));clear B1 B2 A1 A2;go_wp2_with fail
 refine h3.mono ?_;rintro e w3 ⟨rfl,q3,rfl⟩;have iK:=cD (show cE w (w2.drewN q3) from⟨HB.out.os,HB.out.tape,HB.out.output,HB.out.size,HB.out.block⟩);clear h3;go_wp2
 go_ret
 exact⟨rfl,iK.out⟩
theorem Ny(p q:cO)(hp:(bs p).size≤9223372036854775807)(hq:(bs q).size≤9223372036854775807)(w:af)(hm:dM w):
  aq prog 180 #[.s p,.s q] w fun e w'=>e=.returned (.bool (eB p q))∧cE w w':=by
 unfold eB;cases h1:dG p with
 |none=>exact QW p q hp hq h1 w hm
 |some L=>
 cases h2:dG q with
 |none=>exact QV p q L hq h1 h2 w hm
 |some M=>
 dsimp only;by_cases hM:M=[]
 ·subst hM
  simp only[List.length_nil,Nat.zero_le,decide_true,List.take_zero,Bool.and_true];by_cases hL:L=[]
  ·subst hL
   exact QS p q h1 h2 w
  exact QN p q L h1 hL h2 w hm
 by_cases hle:M.length≤L.length
 ·rw[decide_eq_true hle,Bool.true_and]
  exact QT p q L M h1 hM h2 hle w hm
 rw[decide_eq_false hle,aA];by_cases hL:L=[]
 ·subst hL
  exact QO p q M h1 hM h2 w hm
 exact QU p q L M h1 hL h2 cK w hm
theorem Sh(l:cO):yD (bs l)=(l.isEmpty||l==[46]||l==[46,46]):=by unfold yD;rw[oU]
def okC(l:cO):Bool:=!(l.isEmpty||l==[46]||l==[46,46])&&iI (bs l) l.length 0
theorem Om(l:cO):gy l=okC l:=by unfold gy oB okC;rw[Sh,fL]
def EG:cO→Option (List cO)
 |[]=>none
 |c::r=>if c=47∧r.length<64 then (if r=[] then some [] else if (gJ r).all okC then some (gJ r) else none) else none
def Y3(p q:cO):Bool:=
 match EG p,EG q with
 |some l,some m=>decide (m.length≤l.length)&&decide (l.take m.length=m)
 |_,_=>false
theorem WT(l:cO)(i:Nat)(h:i<(bs l).size):(bs l)[i]'h=l[i]'(by rw[fL] at h;exact h):=by
 simp[bs,ByteArray.getElem_eq_getElem_data]
def SlS(w:af)(B:Nat)(a:Option Addr)(L:List cO):Prop:=∀j x,L[j]?=some x→∃g,a=some ⟨g,0,none⟩∧g<B∧w.cell? ⟨g,j,none⟩=some (.s x)
theorem Vz{w:af}{base:Nat}{v:ay}{n:Nat}{L:List cO}(h:w.ownsRow base 9 1 v n (L.map sv)):∃a c,v=.slice a L.length c∧SlS w w.heap.size a L:=by
 rcases Of h with ⟨rfl,rfl⟩|⟨g,cap,rfl,_,_,hg,hat⟩
 ·exact⟨none,0,rfl,fun j x hx=>by simp at hx⟩
 exact⟨_,cap,rfl,fun j x hx=>⟨g,rfl,hg,by have:=hat j x hx;rwa [Nat.zero_add] at this⟩⟩
theorem TE(a b:cO):bs a++bs b=bs (a++b):=by
 have h:(bs a++bs b).data.toList=(bs (a++b)).data.toList:=by
  rw[gU];simp[bs]
 rw[←sE (bs a++bs b),h,sE]
theorem Ev(L:List cO)(k:Nat)(x:cO)(hx:L[k]?=some x):eS (L.take (k+1))=eS (L.take k)++47::x:=by
 rw[aG,hx];simp[eS]
def yX(w:af)(n:Nat)(args:Array ay)(r:ay):Prop:=∀W,cE w W→aq prog n args W fun e w'=>e=.returned r∧cE w w'
theorem nF{w:af}{n:Nat}{args:Array ay}{r:ay}(hm:dM w)(h:∀W,dM W→aq prog n args W fun e w'=>e=.returned r∧cE W w'):yX w n args r:=
 fun W hW=>(h W (hm.kept hW)).mono fun e w' ⟨he,hb⟩=>⟨he,hW.trans (hb.mono hW.size)⟩
theorem AR{w:af}{n:Nat}{args:Array ay}{r:ay}(h:∀W,aq prog n args W fun e w'=>e=.returned r∧W=w'):yX w n args r:=
 fun W hW=>(h W).mono fun e w' ⟨he,hb⟩=>⟨he,hb▸hW⟩
theorem o5{l:cO}{n:Nat}(h:l.length≤n)(hn:n≤1000):(bs l).size≤9223372036854775807:=by rw[fL];omega
theorem ry(w:af)(hm:dM w)(p q:cO)(hp:p.length≤1000)(hq:q.length≤1000):yX w 180 #[.s p,.s q] (.bool (eB p q)):=
 nF hm fun W h=>Ny p q (o5 hp (aj _)) (o5 hq (aj _)) W h
def uo(l:cO):Int:=if (dG l).isSome then 0 else 30
theorem rz(w:af)(hm:dM w)(l:cO)(hl:l.length≤1000):yX w 104 #[.s l] (.i (uo l)):=by
 unfold uo;cases h:dG l with
 |none=>exact nF hm fun W hW=>Lo l h (o5 hl (aj _)) W hW
 |some L=>exact nF hm fun W hW=>Ln l L h W hW
def dm(l:cO):cO:=match dG l with
 |none=>[]
 |some L=>if L=[] then l else zn L.dropLast
def jI(l:cO):cO:=match dG l with
 |none=>[]
 |some L=>L.getLast?.getD []
theorem Af{α:Type}(L:List α):L=[]∨∃M x,L=M++[x]:=by
 rcases List.eq_nil_or_concat L with h|⟨M,x,h⟩
 ·exact .inl h
 exact .inr ⟨M,x,by rw[h,List.concat_eq_append]⟩
theorem mM(w:af)(hm:dM w)(l:cO)(hl:l.length≤1000):yX w 54 #[.s l] (.string (bs (dm l))):=by
 unfold dm;cases h:dG l with
 |none=>exact nF hm fun W hW=>GB l h (o5 hl (aj _)) W hW
 |some L=>
 rcases Af L with rfl|⟨M,x,rfl⟩
 ·exact AR fun W=>J2 l h W
 dsimp only;rw[if_neg cM,aC];exact nF hm fun W hW=>GA l M x h W hW
theorem Kg(w:af)(hm:dM w)(l:cO)(hl:l.length≤1000):yX w 55 #[.s l] (.string (bs (jI l))):=by
 unfold jI;cases h:dG l with
 |none=>exact nF hm fun W hW=>PY l h (o5 hl (aj _)) W hW
 |some L=>
 rcases Af L with rfl|⟨M,x,rfl⟩
 ·exact AR fun W=>TS l h W
 dsimp only;rw[show(M++[x]).getLast?.getD []=x by simp];exact nF hm fun W hW=>PX l M x h W hW
theorem Fx(s:ByteArray)(i:Nat):∀k,1≤k→k<(aB s i).2→vZ s (i+k)=true:=by
 intro k hk1 hk2;rw[By] at hk2;split at hk2
 ·simp only at hk2;omega
 split at hk2
 ·rename_i _ h
  simp only[ag] at h;split at hk2
  ·obtain rfl:k=1:=by simp only at hk2;omega
   exact h.2
  simp only at hk2;omega
 split at hk2
 ·rename_i _ _ h
  simp only[ag] at h;split at hk2
  ·rcases(show k=1∨k=2 by simp only at hk2;omega) with rfl|rfl
   ·exact h.1.2
   exact h.2
  simp only at hk2;omega
 split at hk2
 ·rename_i _ _ _ h
  simp only[ag] at h;split at hk2
  ·rcases(show k=1∨k=2∨k=3 by simp only at hk2;omega) with rfl|rfl|rfl
   ·exact h.1.1.2
   ·exact h.1.2
   exact h.2
  simp only at hk2;omega
 simp only at hk2;omega
theorem M3(s:ByteArray):∀(b pos:Nat),iI s b pos=true→s.size≤pos+b→∀j,pos≤j→j<s.size→vZ s j=true∨Fz (aB s j).1=false
 |0,pos,_,h,j,h1,h2=>by omega
 |b+1,pos,hg,h,j,h1,h2=>by
  have hp:pos<s.size:=by omega
  rw[DK s b pos hp,ag,Bool.not_eq_true'] at hg;by_cases hj:j<pos+(aB s pos).2
  ·by_cases he:j=pos
   ·subst he
    exact .inr hg.1
   ·obtain⟨k,rfl⟩:∃k,j=pos+k:=⟨j - pos,by omega⟩
    exact .inl (Fx s pos k cK cK)
  ·have:=CQ s pos hp
   exact M3 s b _ hg.2 cK j cK h2
theorem OA{l:cO}(h:gy l=true):iI (bs l) (bs l).size 0=true:=by
 unfold gy oB at h;rw[ag] at h;exact h.2
theorem aaN(l:cO)(j:Nat)(h:j<l.length):(bs l).get! j=l[j]:=by
 rw[Ta (bs l) j (by rw[fL];exact h),WT]
theorem VQ(l:cO)(h:gy l=true)(j:Nat)(hj:j<l.length)(c:UInt8)(hc:l[j]=c)(h1:(c.toNat / 64==2)=false)(h2:c.toNat<32∨c=47∨c=127∨248≤c.toNat∨c=192):False:=by
 have hj':j<(bs l).size:=by rw[fL];exact hj
 have Ct:(bs l).get! j=c:=by rw[aaN l j hj,hc]
 rcases M3 (bs l) _ 0 (OA h) cK j (Nat.zero_le _) hj' with h3|h3
 ·unfold vZ at h3
  rw[Ct,h1] at h3;simp at h3
 rw[By,Ct] at h3;rcases h2 with h2|rfl|rfl|h2|rfl
 ·rw[if_pos cK] at h3
  simp[Fz] at h3;omega
 ·rw[if_pos cL] at h3
  exact absurd h3 cL
 ·rw[if_pos cL] at h3
  exact absurd h3 cL
 ·have e1:(c.toNat / 32==6)=false:=by simp;omega
  have e2:(c.toNat / 16==14)=false:=by simp;omega
  have e3:(c.toNat / 8==30)=false:=by simp;omega
  rw[if_neg cK,e1,e2,e3] at h3;simp only[aA,aF,if_false] at h3;exact absurd h3 cL
 have e0:(192:UInt8).toNat=192:=rfl;rw[e0] at h3;rw[if_neg cK] at h3;split at h3
 ·rw[if_neg cK] at h3
  exact absurd h3 cL
 simp only[show(192 / 16==14)=false from rfl,show(192 / 8==30)=false from rfl,aA,aF,if_false] at h3;exact absurd h3 cL
theorem OC{l:cO}(h:gy l=true):(47:UInt8)∉l:=by
 intro hm;obtain⟨j,hj,hc⟩:=List.mem_iff_getElem.1 hm;exact VQ l h j hj 47 hc rfl (.inr (.inl rfl))
theorem My{l:cO}(h:gy l=true):l≠[]:=by
 rintro rfl;rw[Om] at h;exact absurd h cL
theorem Rv(L:List cO)(h1:∀x∈L,gy x=true)(h2:(zn L).length≤64):dG (zn L)=some L:=by
 cases L with
 |nil=>rfl
 |cons x L=>
 have hs:zn (x::L)=47::(x++eS L):=by rw[vB];simp[eS]
 rw[hs] at h2⊢;have Hz:gJ (x++eS L)=x::L:=ve x L (fun y hy=>OC (h1 y hy));rw[ru,if_pos ⟨rfl,by simp only[List.length_cons] at h2;omega⟩,if_neg,Hz,if_pos (List.all_eq_true.2 h1)];have:=My (h1 x cM);intro e;cases x with
 |nil=>exact this rfl
 |cons a b=>cases e
theorem AB{l:cO}{L:List cO}(h:dG l=some L):∀x∈L,gy x=true:=by
 obtain⟨r,rfl,hs,⟨rfl,rfl⟩|⟨h1,rfl,h3⟩⟩:=iG h
 ·simp
 exact List.all_eq_true.1 h3
theorem R6(L:List cO)(k:Nat)(x:cO)(hx:L[k]?=some x):(eS (L.take (k+1))).length=(eS (L.take k)).length+1+x.length:=by
 rw[Ev L k x hx,List.length_append,List.length_cons];omega
theorem AI(L:List cO)(hL:L≠[]):(zn L).length=(eS L).length:=by
 cases L with
 |nil=>exact absurd rfl hL
 |cons x L=>rw[vB]
theorem zX{l:cO}{L:List cO}(h:dG l=some L)(k:Nat):(zn (L.take k)).length≤64:=by
 have h1:=sW h;have h2:=p8 L k;by_cases he:L.take k=[]
 ·rw[he];decide
 rw[AI _ he];omega
theorem AA{l:cO}{L:List cO}(h:dG l=some L)(k:Nat):dG (zn (L.take k))=some (L.take k):=
 Rv _ (fun x hx=>AB h x (List.mem_of_mem_take hx)) (zX h k)
theorem shorter{l:cO}{L:List cO}(h:dG l=some L)(k:Nat)(hk:k<L.length):(zn (L.take k)).length<(zn (L.take (k+1))).length:=by
 have hx:=aa hk;have h1:=R6 L k _ hx;have hne:=My (AB h L[k] (List.getElem_mem _));have hpos:0<(L[k]).length:=au.2 hne;have hL1:L.take (k+1)≠[]:=by
  intro e;have:(L.take (k+1)).length=0:=by rw[e];rfl
  rw[List.length_take] at this;omega
 rw[AI _ hL1,h1];have:=Mv (L.take k);omega
theorem om{p q:cO}{L M:List cO}(h1:dG p=some L)(h2:dG q=some M):eB p q=true↔M <+: L:=by
 unfold eB;rw[h1,h2];simp only[ag,decide_eq_true_eq];exact⟨fun h=>by rw[←h.2];exact List.take_prefix _ _,fun h=>⟨h.length_le,(List.prefix_iff_eq_take.1 h).symm⟩⟩
theorem NG(L:List cO)(k:Nat)(hk:k<L.length):L.take (k+1)=L.take k++[L[k]]:=by
 rw[aG,aa hk];rfl
theorem Vd{α:Type}(M:List α)(x:α):M++[x]≠[]:=by cases M<;>simp
theorem Gz{l:cO}{L:List cO}(h:dG l=some L)(k:Nat)(hk:k<L.length):dm (zn (L.take (k+1)))=zn (L.take k):=by
 unfold dm;rw[AA h (k+1)];show(if L.take (k+1)=[] then _ else zn (L.take (k+1)).dropLast)=_;rw[NG L k hk,if_neg (Vd _ _),aC]
structure Uy where
 ahJ:Array Obj
 drawn:Nat
instance:Inhabited Uy:=⟨⟨#[],0⟩⟩
def gR(W:af)(o:Uy):af:={W with heap:=W.heap++o.ahJ,drawn:=o.drawn}
theorem gR.below(W:af)(o:Uy):cE W (gR W o):=
 ⟨rfl,rfl,rfl,by simp[gR],fun k hk=>by simp[gR,an,hk]⟩
theorem xW{W w':af}(h:cE W w'):∃o,w'=gR W o:=by
 refine⟨⟨w'.heap.extract W.heap.size w'.heap.size,w'.drawn⟩,?_⟩;have hh:w'.heap=W.heap++w'.heap.extract W.heap.size w'.heap.size:=by
  apply Array.ext_getElem?;intro i;by_cases hi:i<W.heap.size
  ·rw[an,if_pos hi]
   exact h.block i hi
  have:=h.size;rw[an,if_neg hi,Array.getElem?_extract];split
  ·congr 1;omega
  rw[Array.getElem?_eq_none];omega
 obtain⟨h1,h2,h3,_,_⟩:=h;cases w';cases W;simp only at*;subst h1 h2 h3;simp only[gR];rw[←hh]
theorem lM{P:Program}{id:Nat}{Q:Exit→Act→af→Prop}{a:Act}{w:af}{l:List Oper}(hm:P.follows .mixedOrders=true)(hB:Region.lexB .any l.toArray=true)
  (h:wpQuiet P l.toArray (fun w'=>∃o,w'=gR w o) (fun a'=>∀w',(∃o,w'=gR w o)→Q .normal a' w') l a):(Code.region id l.toArray true).wp P Q a w:=
 wp_region_quiet (C:=fun w'=>∃o,w'=gR w o) hm hB (xW (aE _ w).drew) (by simpa using h)
theorem OT{w:af}{n:Nat}{args:Array ay}{r:ay}(h:yX w n args r):∀o,aq prog n args (gR w o) fun e w'=>e=.returned r∧∃o',w'=gR w o':=
 fun o=>(h _ (gR.below w o)).mono fun _ _ ⟨he,hb⟩=>⟨he,xW hb⟩
def jH(r:cO):Nat:=match dG r with
 |none=>0
 |some L=>L.length
def EN(p:cO)(s:Int×Int)(i:Nat)(r:cO):Int×Int:=if eB p r=true∧s.2<(jH r:Int) then ((i:Int),(jH r:Int)) else s
def kZ(L:List cO)(p:cO):Nat→Int×Int
 |0=>(-1,-1)
 |k+1=>match L[k]? with
  |none=>kZ L p k
  |some r=>EN p (kZ L p k) k r
def zL(L:List cO)(p:cO):Int:=(kZ L p L.length).1
theorem Dh{L:List cO}{p r:cO}{k:Nat}(h:L[k]?=some r):kZ L p (k+1)=EN p (kZ L p k) k r:=by
 simp[kZ,h]
theorem ID(r:cO):jH r≤64:=by
 unfold jH;cases h:dG r with
 |none=>simp
 |some L=>exact iT h
def YF(L:List cO)(p:cO)(k:Nat)(s:Int×Int):Prop:=
 (s=(-1,-1)∧∀j r,j<k→L[j]?=some r→eB p r=false)∨
 ∃i r,i<k∧L[i]?=some r∧eB p r=true∧s=((i:Int),(jH r:Int))∧
  ∀j q,j<k→L[j]?=some q→eB p q=true→jH q≤jH r∧(j<i→jH q<jH r)
theorem AH(L:List cO)(p:cO):∀k,k≤L.length→YF L p k (kZ L p k)
 |0,_=>.inl ⟨rfl,fun j r h=>absurd h (Nat.not_lt_zero _)⟩
 |k+1,hk=>by
  have ih:=AH L p k cK;obtain⟨r,hr⟩:∃r,L[k]?=some r:=⟨_,aa cK⟩;rw[Dh hr];unfold EN;rcases ih with ⟨h1,h2⟩|⟨i,q,hi,hq,hu,h1,h2⟩
  ·rw[h1]
   by_cases hu:eB p r=true
   ·rw[if_pos ⟨hu,by have:=Int.natCast_nonneg (jH r);omega⟩]
    refine .inr ⟨k,r,by omega,hr,hu,rfl,fun j q hj hq hqu=>?_⟩;rcases ah.1 hj with hj|rfl
    ·rw[h2 j q hj hq] at hqu;cases hqu
    ·rw[hr] at hq;cases hq
     exact⟨aj _,fun h=>absurd h (Nat.lt_irrefl _)⟩
   ·rw[if_neg (fun h=>hu h.1)]
    refine .inl ⟨rfl,fun j q hj hq=>?_⟩;rcases ah.1 hj with hj|rfl
    ·exact h2 j q hj hq
    ·rw[hr] at hq;cases hq
     simpa using hu
  ·rw[h1]
   by_cases hc:eB p r=true∧jH q<jH r
   ·rw[if_pos ⟨hc.1,by have:=hc.2;show(jH q:Int)<_;omega⟩]
    refine .inr ⟨k,r,by omega,hr,hc.1,rfl,fun j x hj hx hxu=>?_⟩;rcases ah.1 hj with hj|rfl
    ·have:=(h2 j x hj hx hxu).1
     exact⟨by omega,fun _=>by omega⟩
    ·rw[hr] at hx;cases hx
     exact⟨aj _,fun h=>absurd h (Nat.lt_irrefl _)⟩
   ·rw[if_neg (fun h=>hc ⟨h.1,by have:=h.2;change (jH q:Int)<_ at this;omega⟩)]
    refine .inr ⟨i,q,by omega,hq,hu,rfl,fun j x hj hx hxu=>?_⟩;rcases ah.1 hj with hj|rfl
    ·exact h2 j x hj hx hxu
    ·rw[hr] at hx;cases hx
     exact⟨Nat.le_of_not_lt fun h=>hc ⟨hxu,h⟩,fun h=>by omega⟩
theorem VG(L:List cO)(p:cO)(k:Nat)(hk:k≤L.length):-1≤(kZ L p k).1∧(kZ L p k).1<k∧-1≤(kZ L p k).2∧(kZ L p k).2≤64∨k=0∧kZ L p k=(-1,-1):=by
 rcases AH L p k hk with ⟨h1,_⟩|⟨i,q,hi,_,_,h1,_⟩
 ·rw[h1]
  by_cases h0:k=0
  ·exact .inr ⟨h0,rfl⟩
  exact .inl ⟨by omega,by show(-1:Int)<_;omega,by omega,by show(-1:Int)≤_;omega⟩
 rw[h1];have:=ID q;exact .inl ⟨by show -1≤(i:Int);omega,by show(i:Int)<_;omega,by show -1≤(jH q:Int);omega,by show(jH q:Int)≤_;omega⟩
theorem VF(L:List cO)(p:cO)(k:Nat)(hk:k≤L.length):-1≤(kZ L p k).1∧(kZ L p k).1≤k∧-1≤(kZ L p k).2∧(kZ L p k).2≤64:=by
 rcases VG L p k hk with h|⟨rfl,h⟩
 ·omega
 rw[h];simp
def mB(L:List cO):Int:=if L.length<1∨4<L.length∨¬L.Nodup then 1 else if L.all (fun x=>(dG x).isSome) then 0 else 30
theorem RB(L:List cO)(p:cO):YF L p L.length (kZ L p L.length):=AH L p _ (aj _)
end
