/- Part 11. -/
import Derived.Test.YtdpaejbaoefdjaaGreatDoorQ7
import Derived.Test.YtdpaejbaoefdjaaGreatDoorQ2
import Derived.Test.YtdpaejbaoefdjaaGreatDoorQ10
open Go renaming World → aa,Calls → af
open List renaming length_cons → ag,getElem?_eq_getElem → ah,getElem?_eq_some_iff → aq
open Go.RowKit.Below renaming refl → aj
open Go.Value renaming string → an
open Go.Lib renaming hasPrefix → au
open Option.some renaming inj → ay
open Nat renaming le_refl → aA
namespace Go.Proofs.YtdpaejbaoefdjaaGreatDoor
open Go.Proofs.Tryz
set_option maxRecDepth 100000
set_option maxHeartbeats 64000000
set_option linter.unusedVariables false
set_option linter.unusedSimpArgs false
section
open Go.RowKit
def gm(x:cP):Bool:=oC (bs x)
def l8(L:List cP):Int:=if L.all gm then -1 else ((L.findIdx fun x=>!gm x:Nat):Int)
theorem Dj(L:List cP):decide (0≤l8 L)=!L.all gm:=by
 unfold l8;cases h:L.all gm<;>simp
theorem Gn(L:List cP)(k:Nat)(x:cP)(hx:L[k]?=some x)(hb:gm x=false)(hg:∀j y,j<k→L[j]?=some y→gm y=true):l8 L=k:=by
 obtain⟨hk,rfl⟩:=aq.1 hx;have h1:L.all gm=false:=by
  rw[List.all_eq_false];exact⟨_,List.getElem_mem hk,by simp[hb]⟩
 unfold l8;rw[if_neg (by simp[h1])];have:L.findIdx (fun x=>!gm x)=k:=by
  rw[List.findIdx_eq hk];exact⟨by simp[hb],fun j hj=>by simp[hg j _ hj (ah cL)]⟩
 rw[this]
theorem Dl(L:List cP)(hg:∀j y,j<L.length→L[j]?=some y→gm y=true):l8 L=-1:=by
 have h1:L.all gm=true:=by
  rw[List.all_eq_true];intro x hx;obtain⟨j,hj,rfl⟩:=List.mem_iff_getElem.1 hx;exact hg j _ hj (ah hj)
 unfold l8;rw[if_pos h1]
def uR(w:aa)(b off:Nat)(L:List cP):Prop:=∀j x,L[j]?=some x→w.cell? ⟨b,off+j,none⟩=some (.s x)
theorem C7(b off c:Nat)(L:List cP)(w:aa)(hb:b<w.heap.size)(hbig:L.length≤1000)(hc:uR w b off L):
  af prog 181 #[.slice (some ⟨b,off,none⟩) L.length c,.func (.func 210) #[] #[]] w fun e w'=>e=.returned (.i (l8 L))∧cF w w':=by
 have HC:=cE hc;clear hc;obtain⟨N,hN⟩:=cG L.length;have HN:=cE hN;rw[←hN] at hbig⊢;clear hN;go_enter func181,ntmps181
 go_wp2
 go_loopw [5,8] (fun _ i wr=>∃k:Nat,k≤N∧i=.i k∧Hid (∀j y,j<k→L[j]?=some y→gm y=true)∧cF w wr) (fun _ i _=>N - (intOf i).toNat)
 case atStart=>exact⟨0,by omega,rfl,cE (fun _ _ h=>absurd h (Nat.not_lt_zero _)),aj _ _⟩
 obtain⟨k,hk,rfl,HG,hB⟩:=hrel;have HB:=cE hB;by_cases hlt:k<N
 ·obtain⟨x,hx⟩:∃x,L[k]?=some x:=⟨_,ah (by rw[←HN.out];exact hlt)⟩
  have hcell:wr.cell? ⟨b,off+k,none⟩=some (.s x):=(hB.cell (p:=⟨b,off+k,none⟩) hb).trans (HC.out k x hx);have HX:=cE hx;have hcl:=Jy (bs x);clear hx hB;cases ho:oC (bs x) with
  |true=>
   rw[ho] at hcl;have HO:=cE ho;clear ho;go_wp2_with (go_at_call 210;refine(hcl _).mono ?_;rintro e w1 ⟨rfl,B1⟩)
   have jk:=cE (HB.out.trans (B1.mono HB.out.size));clear B1;go_roundw
   case rel=>
    refine⟨k+1,by omega,by go_num,cE fun j y hj hy=>?_,jk.out⟩;by_cases e:j=k
    ·subst e
     have:=HX.out;rw[hy] at this;cases this;exact HO.out
    exact HG.out j y cL hy
   case measure=>simp[intOf];omega
  |false=>
  rw[ho] at hcl;have HF:=cE (Gn L k x HX.out ho HG.out);clear ho;go_wp2_with (go_at_call 210;refine(hcl _).mono ?_;rintro e w1 ⟨rfl,B1⟩)
  have jk:=cE (HB.out.trans (B1.mono HB.out.size));clear B1;go_ret
  exact⟨by rw[HF.out];rfl,jk.out⟩
 obtain rfl:k=N:=by omega
 have HF:=cE (Dl L (fun j y hj hy=>HG.out j y (by rw[HN.out];exact hj) hy));clear hB;go_wp2
 go_ret
 exact⟨by rw[HF.out];rfl,HB.out⟩
theorem yB(b off c:Nat)(L:List cP)(w:aa)(hb:b<w.heap.size)(hbig:L.length≤1000)(hc:uR w b off L):
  af prog 71 #[.slice (some ⟨b,off,none⟩) L.length c,.func (.func 210) #[] #[]] w fun e w'=>e=.returned (.bool (!L.all gm))∧cF w w':=by
 have hi:=C7 b off c L w hb hbig hc;rw[←Dj];clear hc;generalize l8 L=i at*;go_enter func71,ntmps71
 go_wp2_with (go_at_call 181;refine hi.mono ?_;rintro e w1 ⟨rfl,B1⟩)
 go_ret
 exact⟨rfl,B1⟩
def dG(w:aa):Prop:=∃m,w.cell? ⟨0,0,none⟩=some (.i m)
theorem dG.kept{w w':aa}(h:dG w)(hb:cF w w'):dG w':=by
 obtain⟨m,hm⟩:=h;exact⟨m,(hb.cell (p:=⟨0,0,none⟩) (World.block_lt_of_cell? w _ hm)).trans hm⟩
def qG(w:aa)(g:Nat)(L:List cP):Prop:=w.heap[g]?=some (.cells (L.map fun x=>an (bs x)).toArray 9 (0,0))
theorem qG.lt{w:aa}{g:Nat}{L:List cP}(h:qG w g L):g<w.heap.size:=(Array.getElem?_eq_some_iff.1 h).1
theorem qG.at{w:aa}{g:Nat}{L:List cP}(h:qG w g L):uR w g 0 L:=by
 intro j x hx;rw[Nat.zero_add];unfold qG at h;simp[World.cell?,h,hx]
theorem qG.kept{w w':aa}{g B:Nat}{L:List cP}(h:qG w g L)(hb:Below B w w')(hlt:g<B):qG w' g L:=by
 unfold qG at*;rw[hb.block g hlt];exact h
theorem YH(w:aa)(L:List cP):qG (w.alloc (.cells (L.map fun x=>an (bs x)).toArray 9)) w.heap.size L:=heap_alloc_new w _
theorem yu(r:cP):au (bs (47::r)).data.toList (⟨#[47]⟩:ByteArray).data.toList=true:=by
 rw[gr];rfl
theorem um(r:cP):(⟨(Lib.trimPrefix (bs (47::r)).data.toList (⟨#[47]⟩:ByteArray).data.toList).toArray⟩:ByteArray)=bs r:=by
 rw[gr];rfl
theorem Tm(l:cP)(h:∀r,l≠47::r):au (bs l).data.toList (⟨#[47]⟩:ByteArray).data.toList=false:=by
 rw[gr];cases l with
 |nil=>rfl
 |cons c r=>
 have hc:c≠47:=fun e=>h r (by rw[e])
 simp[au,List.isPrefixOf,Ne.symm hc]
def Cv(w:aa)(e:Ending)(w':aa):Prop:=∃v,e=.returned (.tuple #[v,.F])∧cF w w'
theorem CV(l:cP)(h:∀r,l≠47::r)(w:aa):af prog 118 #[.s l] w (Cv w):=by
 have RV:=strings_CutPrefix (bs l) ⟨#[47]⟩;rw[Tm l h] at RV;clear h;generalize (⟨(Lib.trimPrefix (bs l).data.toList (⟨#[47]⟩:ByteArray).data.toList).toArray⟩:ByteArray)=t at RV;go_enter func118,ntmps118
 go_wp2_with (go_at_call 208;refine(RV _).mono ?_;rintro e w1 ⟨rfl,hw1⟩;subst w1)
 go_ret2
 exact⟨_,rfl,aj _ _⟩
theorem Kx(r:cP)(h:64<(bs (47::r)).size)(hm:(bs (47::r)).size≤9223372036854775807)(w:aa):af prog 118 #[.string (bs (47::r))] w (Cv w):=by
 have RV:=strings_CutPrefix (bs (47::r)) ⟨#[47]⟩;rw[yu,um] at RV;go_enter func118,ntmps118
 go_wp2_with (go_at_call 208;refine(RV _).mono ?_;rintro e w1 ⟨rfl,hw1⟩;subst w1)
 go_ret2
 exact⟨_,rfl,aj _ _⟩
theorem Kw(w:aa):af prog 118 #[.string (bs [47])] w fun e w'=>e=.returned (.tuple #[.n,.T])∧w=w':=by
 have RV:=strings_CutPrefix (bs [47]) ⟨#[47]⟩;rw[yu,um] at RV;have h1:(bs [47]).size≤64:=by decide
 have h2:(bs []).toList.isEmpty=true:=by rw[o6];rfl
 go_enter func118,ntmps118
 go_wp2_with (go_at_call 208;refine(RV _).mono ?_;rintro e w1 ⟨rfl,hw1⟩;subst w1)
 go_ret2
 exact⟨rfl,rfl⟩
theorem AL(r:cP)(ok:Bool)(hr:r≠[])(hlen:(bs (47::r)).size≤64)(hok:(gE r).all gm=ok)(w:aa)(hm:dG w):
  af prog 118 #[.string (bs (47::r))] w fun e w'=>e=.returned (.tuple #[.slice (some ⟨w.heap.size,0,none⟩) (gE r).length (gE r).length,.bool ok])∧qG w' w.heap.size (gE r)∧cF w w':=by
 obtain⟨m,hm⟩:=hm;have RV:=strings_CutPrefix (bs (47::r)) ⟨#[47]⟩;rw[yu,um] at RV;have hrl:r.length<64:=by rw[eP] at hlen;simp at hlen;omega
 have hne:(bs r).toList.isEmpty=false:=by rw[o6];cases r<;>simp_all
 have hsp:=strings_Split (bs r) ⟨#[47]⟩ m w (by rw[eP];omega) hm cM;have e1:(⟨#[47]⟩:ByteArray)=bs [47]:=rfl;rw[e1,O7,qW,gr,List.map_map,show(an∘bs)=fun x=>an (bs x) from rfl] at hsp;have Ja:(gE r).length≤1000:=by
  rw[←gr r,←qW];have:=Lib.countB_le (bs [47]) cM (bs r).size (bs r) (aA _);rw[eP] at this;omega
 have Jd:=fun(W:aa) (hb:qG W w.heap.size (gE r))=>yB w.heap.size 0 (gE r).length (gE r) W hb.lt Ja hb.at
 rw[hok] at Jd;have HF:=cE Jd;have HB:=cE (YH w (gE r));clear Jd hm hok hr Ja;generalize gE r=L at*;go_enter func118,ntmps118
 go_wp2_with (first
  |(go_at_call 208;refine(RV _).mono ?_;rintro e w1 ⟨rfl,hw1⟩;subst w1)
  |(go_at_call 209;refine hsp.mono ?_;rintro e w2 ⟨rfl,eS⟩;subst w2)
  |fail)
 refine(HF.out _ HB.out).mono ?_;rintro e w3 ⟨rfl,B3⟩;have hB:qG w3 w.heap.size L:=HB.out.kept B3 HB.out.lt;have hBl:cF w w3:=((aj _ w).alloc (aA _) _).trans (B3.mono cN);have X:=cE (cD hB hBl);clear B3 hB hBl;go_wp2
 go_ret2
 exact⟨by simp,X.out.1,X.out.2⟩
theorem oy(c:UInt8)(r:cP):dx (c::r)=if c=47∧r.length<64 then (if r=[] then some [] else if (gE r).all gm then some (gE r) else none) else none:=rfl
theorem iC{l:cP}{L:List cP}(h:dx l=some L):∃r,l=47::r∧(bs (47::r)).size≤64∧((r=[]∧L=[])∨(r≠[]∧L=gE r∧(gE r).all gm=true)):=by
 cases l with
 |nil=>cases h
 |cons c r=>
 rw[oy] at h;by_cases hc:c=47∧r.length<64
 ·rw[if_pos hc] at h
  obtain⟨rfl,hl⟩:=hc;refine⟨r,rfl,by rw[eP,ag];omega,?_⟩;by_cases hr:r=[]
  ·rw[if_pos hr] at h
   exact .inl ⟨hr,(ay h).symm⟩
  rw[if_neg hr] at h;by_cases ha:(gE r).all gm=true
  ·rw[if_pos ha] at h
   exact .inr ⟨hr,(ay h).symm,ha⟩
  rw[if_neg ha] at h;cases h
 rw[if_neg hc] at h;cases h
theorem Ia{l:cP}(h:dx l=none):(∀r,l≠47::r)∨∃r,l=47::r∧(64<(bs (47::r)).size∨(r≠[]∧(bs (47::r)).size≤64∧(gE r).all gm=false)):=by
 cases l with
 |nil=>exact .inl (fun r e=>by cases e)
 |cons c r=>
 by_cases hc:c=47
 ·subst hc
  refine .inr ⟨r,rfl,?_⟩;by_cases hl:r.length<64
  ·rw[oy,if_pos ⟨rfl,hl⟩] at h
   by_cases hr:r=[]
   ·rw[if_pos hr] at h
    cases h
   rw[if_neg hr] at h;by_cases ha:(gE r).all gm=true
   ·rw[if_pos ha] at h
    cases h
   exact .inr ⟨hr,by rw[eP,ag];omega,by simpa using ha⟩
  exact .inl (by rw[eP,ag];omega)
 exact .inl (fun r' e=>hc (by cases e;rfl))
theorem jO(l:cP)(h:dx l=none)(hs:(bs l).size≤9223372036854775807)(w:aa)(hm:dG w):af prog 118 #[.s l] w (Cv w):=by
 rcases Ia h with h1|⟨r,rfl,h1|⟨h1,h2,h3⟩⟩
 ·exact CV l h1 w
 ·exact Kx r h1 hs w
 exact(AL r false h1 h2 h3 w hm).mono fun e w' ⟨he,_,hb⟩=>⟨_,he,hb⟩
theorem jl(l:cP)(h:dx l=some [])(w:aa):af prog 118 #[.s l] w fun e w'=>e=.returned (.tuple #[.n,.T])∧w=w':=by
 obtain⟨r,rfl,_,⟨rfl,_⟩|⟨_,h2,_⟩⟩:=iC h
 ·exact Kw w
 exact absurd h2.symm (ow r)
theorem gY(l:cP)(L:List cP)(h:dx l=some L)(hL:L≠[])(w:aa)(hm:dG w):
  af prog 118 #[.s l] w fun e w'=>e=.returned (.tuple #[.slice (some ⟨w.heap.size,0,none⟩) L.length L.length,.T])∧qG w' w.heap.size L∧cF w w':=by
 obtain⟨r,rfl,hs,⟨_,rfl⟩|⟨h1,rfl,h3⟩⟩:=iC h
 ·exact absurd rfl hL
 exact AL r true h1 hs h3 w hm
theorem iP{l:cP}{L:List cP}(h:dx l=some L):L.length≤64:=by
 obtain⟨r,rfl,hs,⟨_,rfl⟩|⟨h1,rfl,h3⟩⟩:=iC h
 ·simp
 rw[eP] at hs;simp at hs;have h2:=Lib.countB_le (bs [47]) cM (bs r).size (bs r) (aA _);rw[eP] at h2;have h3:=qW (bs r);rw[gr] at h3;omega
theorem ME(l:cP)(h:dx l=none)(hs:(bs l).size≤9223372036854775807)(w:aa)(hm:dG w):
  af prog 104 #[.s l] w fun e w'=>e=.returned (.i 30)∧cF w w':=by
 have hsp:=jO l h hs w hm;clear h hm;go_enter func104,ntmps104
 go_wp2_with (go_at_call 118;refine hsp.mono ?_;rintro e w1 ⟨v,rfl,B1⟩)
 go_ret
 exact⟨rfl,B1⟩
theorem MD(l:cP)(L:List cP)(h:dx l=some L)(w:aa)(hm:dG w):
  af prog 104 #[.s l] w fun e w'=>e=.returned (.I)∧cF w w':=by
 cases L with
 |nil=>
  have hsp:=jl l h w;clear h hm;go_enter func104,ntmps104
  go_wp2_with (go_at_call 118;refine hsp.mono ?_;rintro e w1 ⟨rfl,rfl⟩)
  go_ret
  exact⟨rfl,aj _ _⟩
 |cons x L=>
 have hsp:=gY l (x::L) h cN w hm;clear h hm;go_enter func104,ntmps104
 go_wp2_with (go_at_call 118;refine hsp.mono ?_;rintro e w1 ⟨rfl,_,B1⟩)
 go_ret
 exact⟨rfl,B1⟩
theorem Lf(l:cP)(h:dx l=none)(hs:(bs l).size≤9223372036854775807)(w:aa)(hm:dG w):
  af prog 179 #[.s l] w fun e w'=>e=.returned (.n)∧cF w w':=by
 have hsp:=jO l h hs w hm;clear h hm;go_enter func179,ntmps179
 go_wp2_with (go_at_call 118;refine hsp.mono ?_;rintro e w1 ⟨v,rfl,B1⟩)
 go_ret
 exact⟨rfl,B1⟩
theorem PC(l:cP)(h:dx l=some [])(w:aa):
  af prog 179 #[.s l] w fun e w'=>e=.returned (.n)∧w=w':=by
 have hsp:=jl l h w;clear h;go_enter func179,ntmps179
 go_wp2_with (go_at_call 118;refine hsp.mono ?_;rintro e w1 ⟨rfl,rfl⟩)
 go_ret
 exact⟨rfl,rfl⟩
theorem Le(l:cP)(L:List cP)(h:dx l=some L)(hL:L≠[])(w:aa)(hm:dG w):
  af prog 179 #[.s l] w fun e w'=>e=.returned (.slice (some ⟨w.heap.size,0,none⟩) L.length L.length)∧qG w' w.heap.size L∧cF w w':=by
 have hsp:=gY l L h hL w hm;clear h hm hL;go_enter func179,ntmps179
 go_wp2_with (go_at_call 118;refine hsp.mono ?_;rintro e w1 ⟨rfl,A1,B1⟩)
 go_ret
 exact⟨rfl,A1,B1⟩
theorem Ew(L:List cP):Lib.join ((L.map bs).map (·.data.toList)) (⟨#[47]⟩:ByteArray).data.toList=[47].intercalate L:=by
 rw[List.map_map,show((fun x:ByteArray=>x.data.toList)∘bs)=id from by funext x;exact gr x,List.map_id];rfl
theorem Rs(l:cP):(⟨#[47]⟩:ByteArray)++(⟨l.toArray⟩:ByteArray)=bs (47::l):=by
 have h:((⟨#[47]⟩:ByteArray)++(⟨l.toArray⟩:ByteArray)).data.toList=(bs (47::l)).data.toList:=by
  rw[gr];simp
 rw[←sP ((⟨#[47]⟩:ByteArray)++_),h,sP]
theorem abc(b c:Nat)(L:List cP)(w:aa)(hc:uR w b 0 L)(hb:b<w.heap.size)(hbig:L.length≤1000)(hcap:L.length≤c)(hlen:(zX L).length≤1000000):
  af prog 119 #[.slice (some ⟨b,0,none⟩) L.length c] w fun e w'=>e=.returned (.string (bs (zX L)))∧cF w w':=by
 have hj:=strings_Join b 0 c (L.map bs) ⟨#[47]⟩ w (fun j x hx=>by
  rw[List.getElem?_map] at hx;cases hl:L[j]? with
  |none=>rw[hl] at hx;cases hx
  |some y=>
  rw[hl] at hx;cases hx;exact hc j y hl) hb (by simp;omega) (by simpa using hcap) (by rw[Ew];simp only[zX,ag] at hlen;omega)
 rw[Ew,List.length_map] at hj;have he:=Rs ([47].intercalate L)
 change _=bs (zX L) at he
 have HE:=cE he;have hsz:([47].intercalate L:cP).length≤1000000:=by simp only[zX,ag] at hlen;omega
 clear he hc hlen;generalize ([47].intercalate L:cP)=t at*;generalize zX L=u at*;go_enter func119,ntmps119
 go_wp2_with (go_at_call 212;refine hj.mono ?_;rintro e w1 ⟨rfl,B1⟩)
 go_ret
 exact⟨by rw[←HE.out];rfl,B1⟩
theorem Ig(l:cP)(h:dx l=none)(hs:(bs l).size≤9223372036854775807)(w:aa)(hm:dG w):
  af prog 54 #[.s l] w fun e w'=>e=.returned (.string (bs []))∧cF w w':=by
 have hsp:=jO l h hs w hm;clear h hm;go_enter func54,ntmps54
 go_wp2_with (go_at_call 118;refine hsp.mono ?_;rintro e w1 ⟨v,rfl,B1⟩)
 go_ret
 exact⟨rfl,B1⟩
theorem Lg(l:cP)(h:dx l=some [])(w:aa):
  af prog 54 #[.s l] w fun e w'=>e=.returned (.s l)∧w=w':=by
 have hsp:=jl l h w;clear h;go_enter func54,ntmps54
 go_wp2_with (go_at_call 118;refine hsp.mono ?_;rintro e w1 ⟨rfl,rfl⟩)
 go_ret
 exact⟨rfl,rfl⟩
theorem qt:∀(L:List cP) (k:Nat),(eG (L.take k)).length≤(eG L).length
 |[],k=>by simp[eG]
 |x::L,0=>by simp[eG]
 |x::L,k+1=>by
  have:=qt L k;simp only[eG,List.take_succ_cons,List.map_cons,List.flatten_cons,List.length_append] at this⊢;omega
theorem sG{l:cP}{L:List cP}(h:dx l=some L):zX L=l:=by
 obtain⟨r,rfl,hs,⟨rfl,rfl⟩|⟨h1,rfl,h3⟩⟩:=iC h
 ·rfl
 cases hsg:gE r with
 |nil=>exact absurd hsg (ow r)
 |cons x L=>rw[vW,←hsg,mH]
theorem NH(L:List cP):(zX L).length≤(eG L).length+1:=by
 cases L with
 |nil=>simp[zX,eG]
 |cons x L=>rw[vW];omega
theorem tE{l:cP}{L:List cP}(h:dx l=some L):(eG L).length≤64:=by
 obtain⟨r,rfl,hs,⟨rfl,rfl⟩|⟨h1,rfl,h3⟩⟩:=iC h
 ·simp[eG]
 rw[mH];rw[eP] at hs;exact hs
theorem yU{l:cP}{L:List cP}(h:dx l=some L):l.length≤64:=by
 obtain⟨r,rfl,hs,_⟩:=iC h;rw[eP] at hs;exact hs
theorem Ie(l:cP)(M:List cP)(x:cP)(h:dx l=some (M++[x]))(w:aa)(hm:dG w):
  af prog 54 #[.s l] w fun e w'=>e=.returned (.string (bs (zX M)))∧cF w w':=by
 have hsp:=gY l (M++[x]) h cN w hm;have hl:=iP h;have Wh:∀W:aa,qG W w.heap.size (M++[x])→af prog 119 #[.slice (some ⟨w.heap.size,0,none⟩) M.length (M.length+1)] W fun e w'=>e=.returned (.string (bs (zX M)))∧cF W w':=fun W hW=>
  abc w.heap.size (M.length+1) M W (fun j y hy=>hW.at j y (by rw[List.getElem?_append_left (aq.1 hy).1];exact hy)) hW.lt (by simp at hl;omega) cL (by
   have h1:=NH M;have h2:=qt (M++[x]) M.length;rw[List.take_left] at h2;have h3:=tE h;omega)
 have e1:(M++[x]).length=M.length+1:=by simp
 rw[e1] at hsp hl;have HO:=cE Wh;clear Wh e1 h hm;obtain⟨k,hk⟩:=cG M.length;rw[←hk] at hsp hl HO;clear hk;have hc:((k+1:Nat):Int) - 1=(k:Int):=by omega
 have hz:((k+1:Nat):Int)=(k:Int)+1:=by omega
 go_enter func54,ntmps54
 go_wp2_with (go_at_call 118;refine hsp.mono ?_;rintro e w1 ⟨rfl,A1,B1⟩)
 refine(HO.out _ A1).mono ?_;rintro e w2 ⟨rfl,B2⟩;have HB:=cE (B1.trans (B2.mono B1.size));clear B1 B2 A1 HO;go_wp2
 go_ret
 exact⟨rfl,HB.out⟩
theorem Rx(l:cP)(h:dx l=none)(hs:(bs l).size≤9223372036854775807)(w:aa)(hm:dG w):
  af prog 55 #[.s l] w fun e w'=>e=.returned (.string (bs []))∧cF w w':=by
 have hsp:=jO l h hs w hm;clear h hm;go_enter func55,ntmps55
 go_wp2_with (go_at_call 118;refine hsp.mono ?_;rintro e w1 ⟨v,rfl,B1⟩)
 go_ret
 exact⟨rfl,B1⟩
theorem Vp(l:cP)(h:dx l=some [])(w:aa):
  af prog 55 #[.s l] w fun e w'=>e=.returned (.string (bs []))∧w=w':=by
 have hsp:=jl l h w;clear h;go_enter func55,ntmps55
 go_wp2_with (go_at_call 118;refine hsp.mono ?_;rintro e w1 ⟨rfl,rfl⟩)
 go_ret
 exact⟨rfl,rfl⟩
theorem Rw(l:cP)(M:List cP)(x:cP)(h:dx l=some (M++[x]))(w:aa)(hm:dG w):
  af prog 55 #[.s l] w fun e w'=>e=.returned (.s x)∧cF w w':=by
 have hsp:=gY l (M++[x]) h cN w hm;have hl:=iP h;have hat:∀W:aa,qG W w.heap.size (M++[x])→W.cell? ⟨w.heap.size,M.length,none⟩=some (.s x):=fun W hW=>by
  have:=hW.at M.length x cN;rw[Nat.zero_add] at this;exact this
 have e1:(M++[x]).length=M.length+1:=by simp
 rw[e1] at hsp hl;have HA:=cE hat;clear hat e1 h hm;obtain⟨k,hk⟩:=cG M.length;rw[←hk] at hsp hl HA;clear hk;have hc:((k+1:Nat):Int) - 1=(k:Int):=by omega
 have hz:((k+1:Nat):Int)=(k:Int)+1:=by omega
 go_enter func55,ntmps55
 go_wp2_with fail
 refine hsp.mono ?_;rintro e w1 ⟨rfl,A1,B1⟩;have hcell:=HA.out _ A1;have HB:=cE B1;clear A1 B1 HA;go_wp2
 go_ret
 exact⟨rfl,HB.out⟩
end
