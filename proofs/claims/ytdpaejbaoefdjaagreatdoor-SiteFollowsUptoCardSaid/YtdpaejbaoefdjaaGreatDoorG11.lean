/- Part 11. -/
import Derived.Test.YtdpaejbaoefdjaaGreatDoorG7
import Derived.Test.YtdpaejbaoefdjaaGreatDoorG2
import Derived.Test.YtdpaejbaoefdjaaGreatDoorG10
open Go renaming World → aa,Calls → af
open List renaming length_cons → ag,getElem?_eq_getElem → ah,getElem?_eq_some_iff → aq
open Go.RowKit.Below renaming refl → aj
open Go.Value renaming string → an
open Go.Lib renaming hasPrefix → au
open Option.some renaming inj → ay
open Nat renaming le_refl → aA
namespace Go.Proofs.YtdpaejbaoefdjaaGreatDoor
open Go.Proofs.Tryz
set_option maxRecDepth 100000
set_option maxHeartbeats 64000000
set_option linter.unusedVariables false
set_option linter.unusedSimpArgs false
section
open Go.RowKit
def gy(x:cO):Bool:=oB (bs x)
def l9(L:List cO):Int:=if L.all gy then -1 else ((L.findIdx fun x=>!gy x:Nat):Int)
theorem CC(L:List cO):decide (0≤l9 L)=!L.all gy:=by
 unfold l9;cases h:L.all gy<;>simp
theorem Fq(L:List cO)(k:Nat)(x:cO)(hx:L[k]?=some x)(hb:gy x=false)(hg:∀j y,j<k→L[j]?=some y→gy y=true):l9 L=k:=by
 obtain⟨hk,rfl⟩:=aq.1 hx;have h1:L.all gy=false:=by
  rw[List.all_eq_false];exact⟨_,List.getElem_mem hk,by simp[hb]⟩
 unfold l9;rw[if_neg (by simp[h1])];have:L.findIdx (fun x=>!gy x)=k:=by
  rw[List.findIdx_eq hk];exact⟨by simp[hb],fun j hj=>by simp[hg j _ hj (ah cK)]⟩
 rw[this]
theorem CD(L:List cO)(hg:∀j y,j<L.length→L[j]?=some y→gy y=true):l9 L=-1:=by
 have h1:L.all gy=true:=by
  rw[List.all_eq_true];intro x hx;obtain⟨j,hj,rfl⟩:=List.mem_iff_getElem.1 hx;exact hg j _ hj (ah hj)
 unfold l9;rw[if_pos h1]
def uw(w:aa)(b off:Nat)(L:List cO):Prop:=∀j x,L[j]?=some x→w.cell? ⟨b,off+j,none⟩=some (.s x)
theorem Cq(b off c:Nat)(L:List cO)(w:aa)(hb:b<w.heap.size)(hbig:L.length≤1000)(hc:uw w b off L):
  af prog 181 #[.slice (some ⟨b,off,none⟩) L.length c,.func (.func 210) #[] #[]] w fun e w'=>e=.returned (.i (l9 L))∧cE w w':=by
 have HC:=cD hc;clear hc;obtain⟨N,hN⟩:=cF L.length;have HN:=cD hN;rw[←hN] at hbig⊢;clear hN;go_enter func181,ntmps181
 go_wp2
 go_loopw [5,8] (fun _ i wr=>∃k:Nat,k≤N∧i=.i k∧Hid (∀j y,j<k→L[j]?=some y→gy y=true)∧cE w wr) (fun _ i _=>N - (intOf i).toNat)
 case atStart=>exact⟨0,by omega,rfl,cD (fun _ _ h=>absurd h (Nat.not_lt_zero _)),aj _ _⟩
 obtain⟨k,hk,rfl,HG,hB⟩:=hrel;have HB:=cD hB;by_cases hlt:k<N
 ·obtain⟨x,hx⟩:∃x,L[k]?=some x:=⟨_,ah (by rw[←HN.out];exact hlt)⟩
  have hcell:wr.cell? ⟨b,off+k,none⟩=some (.s x):=(hB.cell (p:=⟨b,off+k,none⟩) hb).trans (HC.out k x hx);have HX:=cD hx;have hcl:=IG (bs x);clear hx hB;cases ho:oB (bs x) with
  |true=>
   rw[ho] at hcl;have HO:=cD ho;clear ho;go_wp2_with (go_at_call 210;refine(hcl _).mono ?_;rintro e w1 ⟨rfl,B1⟩)
   have jT:=cD (HB.out.trans (B1.mono HB.out.size));clear B1;go_roundw
   case rel=>
    refine⟨k+1,by omega,by go_num,cD fun j y hj hy=>?_,jT.out⟩;by_cases e:j=k
    ·subst e
     have:=HX.out;rw[hy] at this;cases this;exact HO.out
    exact HG.out j y cK hy
   case measure=>simp[intOf];omega
  |false=>
  rw[ho] at hcl;have HF:=cD (Fq L k x HX.out ho HG.out);clear ho;go_wp2_with (go_at_call 210;refine(hcl _).mono ?_;rintro e w1 ⟨rfl,B1⟩)
  have jT:=cD (HB.out.trans (B1.mono HB.out.size));clear B1;go_ret
  exact⟨by rw[HF.out];rfl,jT.out⟩
 obtain rfl:k=N:=by omega
 have HF:=cD (CD L (fun j y hj hy=>HG.out j y (by rw[HN.out];exact hj) hy));clear hB;go_wp2
 go_ret
 exact⟨by rw[HF.out];rfl,HB.out⟩
theorem xP(b off c:Nat)(L:List cO)(w:aa)(hb:b<w.heap.size)(hbig:L.length≤1000)(hc:uw w b off L):
  af prog 71 #[.slice (some ⟨b,off,none⟩) L.length c,.func (.func 210) #[] #[]] w fun e w'=>e=.returned (.bool (!L.all gy))∧cE w w':=by
 have hi:=Cq b off c L w hb hbig hc;rw[←CC];clear hc;generalize l9 L=i at*;go_enter func71,ntmps71
 go_wp2_with (go_at_call 181;refine hi.mono ?_;rintro e w1 ⟨rfl,B1⟩)
 go_ret
 exact⟨rfl,B1⟩
def dM(w:aa):Prop:=∃m,w.cell? ⟨0,0,none⟩=some (.i m)
theorem dM.kept{w w':aa}(h:dM w)(hb:cE w w'):dM w':=by
 obtain⟨m,hm⟩:=h;exact⟨m,(hb.cell (p:=⟨0,0,none⟩) (World.block_lt_of_cell? w _ hm)).trans hm⟩
def qw(w:aa)(g:Nat)(L:List cO):Prop:=w.heap[g]?=some (.cells (L.map fun x=>an (bs x)).toArray 9 (0,0))
theorem qw.lt{w:aa}{g:Nat}{L:List cO}(h:qw w g L):g<w.heap.size:=(Array.getElem?_eq_some_iff.1 h).1
theorem qw.at{w:aa}{g:Nat}{L:List cO}(h:qw w g L):uw w g 0 L:=by
 intro j x hx;rw[Nat.zero_add];unfold qw at h;simp[World.cell?,h,hx]
theorem qw.kept{w w':aa}{g B:Nat}{L:List cO}(h:qw w g L)(hb:Below B w w')(hlt:g<B):qw w' g L:=by
 unfold qw at*;rw[hb.block g hlt];exact h
theorem W9(w:aa)(L:List cO):qw (w.alloc (.cells (L.map fun x=>an (bs x)).toArray 9)) w.heap.size L:=heap_alloc_new w _
theorem xK(r:cO):au (bs (47::r)).data.toList (⟨#[47]⟩:ByteArray).data.toList=true:=by
 rw[gU];rfl
theorem tR(r:cO):(⟨(Lib.trimPrefix (bs (47::r)).data.toList (⟨#[47]⟩:ByteArray).data.toList).toArray⟩:ByteArray)=bs r:=by
 rw[gU];rfl
theorem RH(l:cO)(h:∀r,l≠47::r):au (bs l).data.toList (⟨#[47]⟩:ByteArray).data.toList=false:=by
 rw[gU];cases l with
 |nil=>rfl
 |cons c r=>
 have hc:c≠47:=fun e=>h r (by rw[e])
 simp[au,List.isPrefixOf,Ne.symm hc]
def BL(w:aa)(e:Ending)(w':aa):Prop:=∃v,e=.returned (.tuple #[v,.F])∧cE w w'
theorem Ci(l:cO)(h:∀r,l≠47::r)(w:aa):af prog 118 #[.s l] w (BL w):=by
 have Qv:=strings_CutPrefix (bs l) ⟨#[47]⟩;rw[RH l h] at Qv;clear h;generalize (⟨(Lib.trimPrefix (bs l).data.toList (⟨#[47]⟩:ByteArray).data.toList).toArray⟩:ByteArray)=t at Qv;go_enter func118,ntmps118
 go_wp2_with (go_at_call 208;refine(Qv _).mono ?_;rintro e w1 ⟨rfl,hw1⟩;subst w1)
 go_ret2
 exact⟨_,rfl,aj _ _⟩
theorem JE(r:cO)(h:64<(bs (47::r)).size)(hm:(bs (47::r)).size≤9223372036854775807)(w:aa):af prog 118 #[.string (bs (47::r))] w (BL w):=by
 have Qv:=strings_CutPrefix (bs (47::r)) ⟨#[47]⟩;rw[xK,tR] at Qv;go_enter func118,ntmps118
 go_wp2_with (go_at_call 208;refine(Qv _).mono ?_;rintro e w1 ⟨rfl,hw1⟩;subst w1)
 go_ret2
 exact⟨_,rfl,aj _ _⟩
theorem JD(w:aa):af prog 118 #[.string (bs [47])] w fun e w'=>e=.returned (.tuple #[.n,.T])∧w=w':=by
 have Qv:=strings_CutPrefix (bs [47]) ⟨#[47]⟩;rw[xK,tR] at Qv;have h1:(bs [47]).size≤64:=by decide
 have h2:(bs []).toList.isEmpty=true:=by rw[oU];rfl
 go_enter func118,ntmps118
 go_wp2_with (go_at_call 208;refine(Qv _).mono ?_;rintro e w1 ⟨rfl,hw1⟩;subst w1)
 go_ret2
 exact⟨rfl,rfl⟩
theorem Ad(r:cO)(ok:Bool)(hr:r≠[])(hlen:(bs (47::r)).size≤64)(hok:(gJ r).all gy=ok)(w:aa)(hm:dM w):
  af prog 118 #[.string (bs (47::r))] w fun e w'=>e=.returned (.tuple #[.slice (some ⟨w.heap.size,0,none⟩) (gJ r).length (gJ r).length,.bool ok])∧qw w' w.heap.size (gJ r)∧cE w w':=by
 obtain⟨m,hm⟩:=hm;have Qv:=strings_CutPrefix (bs (47::r)) ⟨#[47]⟩;rw[xK,tR] at Qv;have hrl:r.length<64:=by rw[fL] at hlen;simp at hlen;omega
 have hne:(bs r).toList.isEmpty=false:=by rw[oU];cases r<;>simp_all
 have hsp:=strings_Split (bs r) ⟨#[47]⟩ m w (by rw[fL];omega) hm cL;have e1:(⟨#[47]⟩:ByteArray)=bs [47]:=rfl;rw[e1,NK,qR,gU,List.map_map,show(an∘bs)=fun x=>an (bs x) from rfl] at hsp;have Hz:(gJ r).length≤1000:=by
  rw[←gU r,←qR];have:=Lib.countB_le (bs [47]) cL (bs r).size (bs r) (aA _);rw[fL] at this;omega
 have Ig:=fun(W:aa) (hb:qw W w.heap.size (gJ r))=>xP w.heap.size 0 (gJ r).length (gJ r) W hb.lt Hz hb.at
 rw[hok] at Ig;have HF:=cD Ig;have HB:=cD (W9 w (gJ r));clear Ig hm hok hr Hz;generalize gJ r=L at*;go_enter func118,ntmps118
 go_wp2_with (first
  |(go_at_call 208;refine(Qv _).mono ?_;rintro e w1 ⟨rfl,hw1⟩;subst w1)
  |(go_at_call 209;refine hsp.mono ?_;rintro e w2 ⟨rfl,fH⟩;subst w2)
  |fail)
 refine(HF.out _ HB.out).mono ?_;rintro e w3 ⟨rfl,B3⟩;have hB:qw w3 w.heap.size L:=HB.out.kept B3 HB.out.lt;have hBl:cE w w3:=((aj _ w).alloc (aA _) _).trans (B3.mono cM);have X:=cD (cC hB hBl);clear B3 hB hBl;go_wp2
 go_ret2
 exact⟨by simp,X.out.1,X.out.2⟩
theorem ru(c:UInt8)(r:cO):dG (c::r)=if c=47∧r.length<64 then (if r=[] then some [] else if (gJ r).all gy then some (gJ r) else none) else none:=rfl
theorem iG{l:cO}{L:List cO}(h:dG l=some L):∃r,l=47::r∧(bs (47::r)).size≤64∧((r=[]∧L=[])∨(r≠[]∧L=gJ r∧(gJ r).all gy=true)):=by
 cases l with
 |nil=>cases h
 |cons c r=>
 rw[ru] at h;by_cases hc:c=47∧r.length<64
 ·rw[if_pos hc] at h
  obtain⟨rfl,hl⟩:=hc;refine⟨r,rfl,by rw[fL,ag];omega,?_⟩;by_cases hr:r=[]
  ·rw[if_pos hr] at h
   exact .inl ⟨hr,(ay h).symm⟩
  rw[if_neg hr] at h;by_cases ha:(gJ r).all gy=true
  ·rw[if_pos ha] at h
   exact .inr ⟨hr,(ay h).symm,ha⟩
  rw[if_neg ha] at h;cases h
 rw[if_neg hc] at h;cases h
theorem Gx{l:cO}(h:dG l=none):(∀r,l≠47::r)∨∃r,l=47::r∧(64<(bs (47::r)).size∨(r≠[]∧(bs (47::r)).size≤64∧(gJ r).all gy=false)):=by
 cases l with
 |nil=>exact .inl (fun r e=>by cases e)
 |cons c r=>
 by_cases hc:c=47
 ·subst hc
  refine .inr ⟨r,rfl,?_⟩;by_cases hl:r.length<64
  ·rw[ru,if_pos ⟨rfl,hl⟩] at h
   by_cases hr:r=[]
   ·rw[if_pos hr] at h
    cases h
   rw[if_neg hr] at h;by_cases ha:(gJ r).all gy=true
   ·rw[if_pos ha] at h
    cases h
   exact .inr ⟨hr,by rw[fL,ag];omega,by simpa using ha⟩
  exact .inl (by rw[fL,ag];omega)
 exact .inl (fun r' e=>hc (by cases e;rfl))
theorem jU(l:cO)(h:dG l=none)(hs:(bs l).size≤9223372036854775807)(w:aa)(hm:dM w):af prog 118 #[.s l] w (BL w):=by
 rcases Gx h with h1|⟨r,rfl,h1|⟨h1,h2,h3⟩⟩
 ·exact Ci l h1 w
 ·exact JE r h1 hs w
 exact(Ad r false h1 h2 h3 w hm).mono fun e w' ⟨he,_,hb⟩=>⟨_,he,hb⟩
theorem jr(l:cO)(h:dG l=some [])(w:aa):af prog 118 #[.s l] w fun e w'=>e=.returned (.tuple #[.n,.T])∧w=w':=by
 obtain⟨r,rfl,_,⟨rfl,_⟩|⟨_,h2,_⟩⟩:=iG h
 ·exact JD w
 exact absurd h2.symm (ow r)
theorem ig(l:cO)(L:List cO)(h:dG l=some L)(hL:L≠[])(w:aa)(hm:dM w):
  af prog 118 #[.s l] w fun e w'=>e=.returned (.tuple #[.slice (some ⟨w.heap.size,0,none⟩) L.length L.length,.T])∧qw w' w.heap.size L∧cE w w':=by
 obtain⟨r,rfl,hs,⟨_,rfl⟩|⟨h1,rfl,h3⟩⟩:=iG h
 ·exact absurd rfl hL
 exact Ad r true h1 hs h3 w hm
theorem iT{l:cO}{L:List cO}(h:dG l=some L):L.length≤64:=by
 obtain⟨r,rfl,hs,⟨_,rfl⟩|⟨h1,rfl,h3⟩⟩:=iG h
 ·simp
 rw[fL] at hs;simp at hs;have h2:=Lib.countB_le (bs [47]) cL (bs r).size (bs r) (aA _);rw[fL] at h2;have h3:=qR (bs r);rw[gU] at h3;omega
theorem Lo(l:cO)(h:dG l=none)(hs:(bs l).size≤9223372036854775807)(w:aa)(hm:dM w):
  af prog 104 #[.s l] w fun e w'=>e=.returned (.i 30)∧cE w w':=by
 have hsp:=jU l h hs w hm;clear h hm;go_enter func104,ntmps104
 go_wp2_with (go_at_call 118;refine hsp.mono ?_;rintro e w1 ⟨v,rfl,B1⟩)
 go_ret
 exact⟨rfl,B1⟩
theorem Ln(l:cO)(L:List cO)(h:dG l=some L)(w:aa)(hm:dM w):
  af prog 104 #[.s l] w fun e w'=>e=.returned (.I)∧cE w w':=by
 cases L with
 |nil=>
  have hsp:=jr l h w;clear h hm;go_enter func104,ntmps104
  go_wp2_with (go_at_call 118;refine hsp.mono ?_;rintro e w1 ⟨rfl,rfl⟩)
  go_ret
  exact⟨rfl,aj _ _⟩
 |cons x L=>
 have hsp:=ig l (x::L) h cM w hm;clear h hm;go_enter func104,ntmps104
 go_wp2_with (go_at_call 118;refine hsp.mono ?_;rintro e w1 ⟨rfl,_,B1⟩)
 go_ret
 exact⟨rfl,B1⟩
theorem J1(l:cO)(h:dG l=none)(hs:(bs l).size≤9223372036854775807)(w:aa)(hm:dM w):
  af prog 179 #[.s l] w fun e w'=>e=.returned (.n)∧cE w w':=by
 have hsp:=jU l h hs w hm;clear h hm;go_enter func179,ntmps179
 go_wp2_with (go_at_call 118;refine hsp.mono ?_;rintro e w1 ⟨v,rfl,B1⟩)
 go_ret
 exact⟨rfl,B1⟩
theorem Od(l:cO)(h:dG l=some [])(w:aa):
  af prog 179 #[.s l] w fun e w'=>e=.returned (.n)∧w=w':=by
 have hsp:=jr l h w;clear h;go_enter func179,ntmps179
 go_wp2_with (go_at_call 118;refine hsp.mono ?_;rintro e w1 ⟨rfl,rfl⟩)
 go_ret
 exact⟨rfl,rfl⟩
theorem J0(l:cO)(L:List cO)(h:dG l=some L)(hL:L≠[])(w:aa)(hm:dM w):
  af prog 179 #[.s l] w fun e w'=>e=.returned (.slice (some ⟨w.heap.size,0,none⟩) L.length L.length)∧qw w' w.heap.size L∧cE w w':=by
 have hsp:=ig l L h hL w hm;clear h hm hL;go_enter func179,ntmps179
 go_wp2_with (go_at_call 118;refine hsp.mono ?_;rintro e w1 ⟨rfl,A1,B1⟩)
 go_ret
 exact⟨rfl,A1,B1⟩
theorem Dx(L:List cO):Lib.join ((L.map bs).map (·.data.toList)) (⟨#[47]⟩:ByteArray).data.toList=[47].intercalate L:=by
 rw[List.map_map,show((fun x:ByteArray=>x.data.toList)∘bs)=id from by funext x;exact gU x,List.map_id];rfl
theorem PR(l:cO):(⟨#[47]⟩:ByteArray)++(⟨l.toArray⟩:ByteArray)=bs (47::l):=by
 have h:((⟨#[47]⟩:ByteArray)++(⟨l.toArray⟩:ByteArray)).data.toList=(bs (47::l)).data.toList:=by
  rw[gU];simp
 rw[←sE ((⟨#[47]⟩:ByteArray)++_),h,sE]
theorem ZB(b c:Nat)(L:List cO)(w:aa)(hc:uw w b 0 L)(hb:b<w.heap.size)(hbig:L.length≤1000)(hcap:L.length≤c)(hlen:(zn L).length≤1000000):
  af prog 119 #[.slice (some ⟨b,0,none⟩) L.length c] w fun e w'=>e=.returned (.string (bs (zn L)))∧cE w w':=by
 have hj:=strings_Join b 0 c (L.map bs) ⟨#[47]⟩ w (fun j x hx=>by
  rw[List.getElem?_map] at hx;cases hl:L[j]? with
  |none=>rw[hl] at hx;cases hx
  |some y=>
  rw[hl] at hx;cases hx;exact hc j y hl) hb (by simp;omega) (by simpa using hcap) (by rw[Dx];simp only[zn,ag] at hlen;omega)
 rw[Dx,List.length_map] at hj;have he:=PR ([47].intercalate L)
 change _=bs (zn L) at he
 have HE:=cD he;have hsz:([47].intercalate L:cO).length≤1000000:=by simp only[zn,ag] at hlen;omega
 clear he hc hlen;generalize ([47].intercalate L:cO)=t at*;generalize zn L=u at*;go_enter func119,ntmps119
 go_wp2_with (go_at_call 212;refine hj.mono ?_;rintro e w1 ⟨rfl,B1⟩)
 go_ret
 exact⟨by rw[←HE.out];rfl,B1⟩
theorem GB(l:cO)(h:dG l=none)(hs:(bs l).size≤9223372036854775807)(w:aa)(hm:dM w):
  af prog 54 #[.s l] w fun e w'=>e=.returned (.string (bs []))∧cE w w':=by
 have hsp:=jU l h hs w hm;clear h hm;go_enter func54,ntmps54
 go_wp2_with (go_at_call 118;refine hsp.mono ?_;rintro e w1 ⟨v,rfl,B1⟩)
 go_ret
 exact⟨rfl,B1⟩
theorem J2(l:cO)(h:dG l=some [])(w:aa):
  af prog 54 #[.s l] w fun e w'=>e=.returned (.s l)∧w=w':=by
 have hsp:=jr l h w;clear h;go_enter func54,ntmps54
 go_wp2_with (go_at_call 118;refine hsp.mono ?_;rintro e w1 ⟨rfl,rfl⟩)
 go_ret
 exact⟨rfl,rfl⟩
theorem p8:∀(L:List cO) (k:Nat),(eS (L.take k)).length≤(eS L).length
 |[],k=>by simp[eS]
 |x::L,0=>by simp[eS]
 |x::L,k+1=>by
  have:=p8 L k;simp only[eS,List.take_succ_cons,List.map_cons,List.flatten_cons,List.length_append] at this⊢;omega
theorem sw{l:cO}{L:List cO}(h:dG l=some L):zn L=l:=by
 obtain⟨r,rfl,hs,⟨rfl,rfl⟩|⟨h1,rfl,h3⟩⟩:=iG h
 ·rfl
 cases hsg:gJ r with
 |nil=>exact absurd hsg (ow r)
 |cons x L=>rw[vB,←hsg,mJ]
theorem Mv(L:List cO):(zn L).length≤(eS L).length+1:=by
 cases L with
 |nil=>simp[zn,eS]
 |cons x L=>rw[vB];omega
theorem sW{l:cO}{L:List cO}(h:dG l=some L):(eS L).length≤64:=by
 obtain⟨r,rfl,hs,⟨rfl,rfl⟩|⟨h1,rfl,h3⟩⟩:=iG h
 ·simp[eS]
 rw[mJ];rw[fL] at hs;exact hs
theorem ym{l:cO}{L:List cO}(h:dG l=some L):l.length≤64:=by
 obtain⟨r,rfl,hs,_⟩:=iG h;rw[fL] at hs;exact hs
theorem GA(l:cO)(M:List cO)(x:cO)(h:dG l=some (M++[x]))(w:aa)(hm:dM w):
  af prog 54 #[.s l] w fun e w'=>e=.returned (.string (bs (zn M)))∧cE w w':=by
 have hsp:=ig l (M++[x]) h cM w hm;have hl:=iT h;have UK:∀W:aa,qw W w.heap.size (M++[x])→af prog 119 #[.slice (some ⟨w.heap.size,0,none⟩) M.length (M.length+1)] W fun e w'=>e=.returned (.string (bs (zn M)))∧cE W w':=fun W hW=>
  ZB w.heap.size (M.length+1) M W (fun j y hy=>hW.at j y (by rw[List.getElem?_append_left (aq.1 hy).1];exact hy)) hW.lt (by simp at hl;omega) cK (by
   have h1:=Mv M;have h2:=p8 (M++[x]) M.length;rw[List.take_left] at h2;have h3:=sW h;omega)
 have e1:(M++[x]).length=M.length+1:=by simp
 rw[e1] at hsp hl;have HO:=cD UK;clear UK e1 h hm;obtain⟨k,hk⟩:=cF M.length;rw[←hk] at hsp hl HO;clear hk;have hc:((k+1:Nat):Int) - 1=(k:Int):=by omega
 have hz:((k+1:Nat):Int)=(k:Int)+1:=by omega
 go_enter func54,ntmps54
 go_wp2_with (go_at_call 118;refine hsp.mono ?_;rintro e w1 ⟨rfl,A1,B1⟩)
 refine(HO.out _ A1).mono ?_;rintro e w2 ⟨rfl,B2⟩;have HB:=cD (B1.trans (B2.mono B1.size));clear B1 B2 A1 HO;go_wp2
 go_ret
 exact⟨rfl,HB.out⟩
theorem PY(l:cO)(h:dG l=none)(hs:(bs l).size≤9223372036854775807)(w:aa)(hm:dM w):
  af prog 55 #[.s l] w fun e w'=>e=.returned (.string (bs []))∧cE w w':=by
 have hsp:=jU l h hs w hm;clear h hm;go_enter func55,ntmps55
 go_wp2_with (go_at_call 118;refine hsp.mono ?_;rintro e w1 ⟨v,rfl,B1⟩)
 go_ret
 exact⟨rfl,B1⟩
theorem TS(l:cO)(h:dG l=some [])(w:aa):
  af prog 55 #[.s l] w fun e w'=>e=.returned (.string (bs []))∧w=w':=by
 have hsp:=jr l h w;clear h;go_enter func55,ntmps55
 go_wp2_with (go_at_call 118;refine hsp.mono ?_;rintro e w1 ⟨rfl,rfl⟩)
 go_ret
 exact⟨rfl,rfl⟩
theorem PX(l:cO)(M:List cO)(x:cO)(h:dG l=some (M++[x]))(w:aa)(hm:dM w):
  af prog 55 #[.s l] w fun e w'=>e=.returned (.s x)∧cE w w':=by
 have hsp:=ig l (M++[x]) h cM w hm;have hl:=iT h;have hat:∀W:aa,qw W w.heap.size (M++[x])→W.cell? ⟨w.heap.size,M.length,none⟩=some (.s x):=fun W hW=>by
  have:=hW.at M.length x cM;rw[Nat.zero_add] at this;exact this
 have e1:(M++[x]).length=M.length+1:=by simp
 rw[e1] at hsp hl;have HA:=cD hat;clear hat e1 h hm;obtain⟨k,hk⟩:=cF M.length;rw[←hk] at hsp hl HA;clear hk;have hc:((k+1:Nat):Int) - 1=(k:Int):=by omega
 have hz:((k+1:Nat):Int)=(k:Int)+1:=by omega
 go_enter func55,ntmps55
 go_wp2_with fail
 refine hsp.mono ?_;rintro e w1 ⟨rfl,A1,B1⟩;have hcell:=HA.out _ A1;have HB:=cD B1;clear A1 B1 HA;go_wp2
 go_ret
 exact⟨rfl,HB.out⟩
end
