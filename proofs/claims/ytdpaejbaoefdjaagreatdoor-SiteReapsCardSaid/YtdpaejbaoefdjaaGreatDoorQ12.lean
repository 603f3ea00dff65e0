/- Part 12. -/
import Derived.Test.YtdpaejbaoefdjaaGreatDoorQ11
import Derived.Maps.AppendAt
import Derived.ProofKit
open List renaming getElem?_eq_getElem → aa,length_pos_iff → au,dropLast_concat → aC,take_add_one → aG
open Go renaming World → af,Calls → aq,Value → ay
open Bool renaming and_eq_true → ag,false_and → aA,false_eq_true → aF
open Nat renaming lt_succ_iff_lt_or_eq → ah,le_refl → aj
open Array renaming getElem?_append → an
open Go.Utf8 renaming decode → aB
open ByteArray renaming empty → aD
open Go.RowKit.Below renaming refl → aE
namespace Go.Proofs.YtdpaejbaoefdjaaGreatDoor
open Go.Proofs.Tryz
set_option maxRecDepth 100000
set_option maxHeartbeats 64000000
set_option linter.unusedVariables false
set_option linter.unusedSimpArgs false
section
open Go.RowKit
theorem F1:(prog.info? 9).map (fun i=>(i.zero,i.size,i.bytes))=some (some (.string aD),1,16):=by kernel_rfl
def sv(x:cP):ay:=.s x
theorem aaP(L:List cP):∀u∈L.map sv,u.oneCell'=true:=by
 intro u hu;obtain⟨_,_,rfl⟩:=List.mem_map.1 hu;rfl
theorem PE{w:af}{base:Nat}{v:ay}{n:Nat}{L:List cP}(h:w.ownsRow base 9 1 v n (L.map sv)):
  (v=.n∧L=[])∨∃g cap,v=.slice (some ⟨g,0,none⟩) L.length cap∧L.length≤cap∧base≤g∧g<w.heap.size∧uR w g 0 L:=by
 have hl:L.length=n:=by have:=h.1;simpa using this
 subst hl;rcases h.2 with ⟨rfl,h0⟩|⟨g,cap,cur,rfl,zn,hg,hnc,hcm,hsz,QE⟩
 ·exact .inl ⟨rfl,List.eq_nil_of_length_eq_zero h0⟩
 refine .inr ⟨g,cap,rfl,hnc,zn,(Array.getElem?_eq_some_iff.1 hg).1,fun j x hx=>?_⟩;have hcs:=h.cells (g:=g) rfl j (sv x) (by simp[hx]);rw[Addr.add_lit] at hcs;exact hcs
def JL(w:af)(ok:Bool)(e:Ending)(w':af):Prop:=∃v,e=.returned (.tuple #[v,.bool ok])∧cF w w'
theorem G2(l:cP)(L:List cP)(h:dx l=some L)(w:af)(hm:dG w):aq prog 118 #[.s l] w (JL w true):=by
 cases L with
 |nil=>exact(jl l h w).mono fun e w' ⟨he,hw⟩=>⟨_,he,hw▸aE _ _⟩
 |cons x L=>exact(gY l (x::L) h cN w hm).mono fun e w' ⟨he,_,hb⟩=>⟨_,he,hb⟩
theorem O8(l:cP)(hs:(bs l).size≤9223372036854775807)(w:af)(hm:dG w):aq prog 118 #[.s l] w (JL w (dx l).isSome):=by
 cases h:dx l with
 |none=>exact jO l h hs w hm
 |some L=>exact G2 l L h w hm
def dX(p q:cP):Bool:=
 match dx p,dx q with
 |some l,some m=>decide (m.length≤l.length)&&decide (l.take m.length=m)
 |_,_=>false
theorem Vl{a b:cP}(h:bs a=bs b):a=b:=by rw[←gr a,h,gr]
theorem BB:∀{L M:List cP},L.map bs=M.map bs→L=M
 |[],[],_=>rfl
 |[],_::_,h=>by cases h
 |_::_,[],h=>by cases h
 |x::L,y::M,h=>by
  simp only[List.map_cons,List.cons.injEq] at h;rw[Vl h.1,BB h.2]
theorem Gl(L:List cP)(j:Nat)(hj:j<(L.map bs).length):(L.map bs).getD j aD=bs (L[j]'(by simpa using hj)):=by
 simp[List.getD_eq_getElem?_getD,aa (show j<L.length by simpa using hj)]
theorem Q8(b1 c b2 d:Nat)(l m:List cP)(w:af)(h1:uR w b1 0 l)(h2:uR w b2 0 m)(hl:l.length≤1000)(hm:m.length≤l.length):
  aq prog 96 #[.slice (some ⟨b1,0,none⟩) m.length c,.slice (some ⟨b2,0,none⟩) m.length d] w fun e w'=>e=.returned (.bool (decide (l.take m.length=m)))∧∃q,w'=w.drewN q:=by
 have h:=slices_Equal_string b1 0 m.length c b2 0 m.length d (l.map bs) (m.map bs) w (by simpa using hm) cN cL cL
  (fun j hj=>by rw[Gl l j hj];exact h1 j _ (aa _)) (fun j hj=>by rw[Gl m j hj];exact h2 j _ (aa _))
 have e:decide ((l.map bs).take m.length=(m.map bs).take m.length)=decide (l.take m.length=m):=by
  rw[decide_eq_decide];have:(m.map bs).take m.length=m.map bs:=List.take_of_length_le cN;rw[this,←List.map_take];exact⟨BB,fun h=>by rw[h]⟩
 rw[e] at h;exact h
theorem Sr(p q:cP)(hp:(bs p).size≤9223372036854775807)(hq:(bs q).size≤9223372036854775807)(h:dx p=none)(w:af)(hm:dG w):
  aq prog 180 #[.s p,.s q] w fun e w'=>e=.returned (.F)∧cF w w':=by
 have h1:=jO p h hp w hm;have h2:=fun(W:af) (hW:cF w W)=>O8 q hq W (hm.kept hW)
 have H2:=cE h2;clear h2 h hm;generalize (dx q).isSome=ok at*;go_enter func180,ntmps180
 go_wp2_with fail
 refine h1.mono ?_;rintro e w1 ⟨v,rfl,B1⟩;go_wp2_with fail
 refine(H2.out _ B1).mono ?_;rintro e w2 ⟨v2,rfl,B2⟩;have HB:=cE (B1.trans (B2.mono B1.size));clear B1 B2;go_wp2
 go_ret
 exact⟨rfl,HB.out⟩
theorem Sq(p q:cP)(L:List cP)(hq:(bs q).size≤9223372036854775807)(h:dx p=some L)(h0:dx q=none)(w:af)(hm:dG w):
  aq prog 180 #[.s p,.s q] w fun e w'=>e=.returned (.F)∧cF w w':=by
 have h1:=G2 p L h w hm;have h2:=fun(W:af) (hW:cF w W)=>jO q h0 hq W (hm.kept hW)
 have H2:=cE h2;clear h2 h hm h0;go_enter func180,ntmps180
 go_wp2_with fail
 refine h1.mono ?_;rintro e w1 ⟨v,rfl,B1⟩;go_wp2_with fail
 refine(H2.out _ B1).mono ?_;rintro e w2 ⟨v2,rfl,B2⟩;have HB:=cE (B1.trans (B2.mono B1.size));clear B1 B2;go_wp2
 go_ret
 exact⟨rfl,HB.out⟩
theorem Sl(p q:cP)(h:dx p=some [])(h0:dx q=some [])(w:af):
  aq prog 180 #[.s p,.s q] w fun e w'=>e=.returned (.T)∧cF w w':=by
 have h1:=jl p h w;have h2:=jl q h0 w;have h3:=slices_Equal_string_empty none none 0 0 0 w cL;clear h h0;go_enter func180,ntmps180
 go_wp2_with fail
 refine h1.mono ?_;rintro e w1 ⟨rfl,rfl⟩;go_wp2_with fail
 refine h2.mono ?_;rintro e w1 ⟨rfl,rfl⟩;go_wp2_with fail
 refine h3.mono ?_;rintro e w1 ⟨rfl,hw1⟩;subst w1;go_wp2
 go_ret
 exact⟨rfl,aE _ _⟩
theorem Sj(p q:cP)(L:List cP)(h:dx p=some L)(hL:L≠[])(h0:dx q=some [])(w:af)(hm:dG w):
  aq prog 180 #[.s p,.s q] w fun e w'=>e=.returned (.T)∧cF w w':=by
 have h1:=gY p L h hL w hm;have h2:=jl q h0;have h3:=slices_Equal_string_empty (some ⟨w.heap.size,0,none⟩) none L.length 0 0;have hl:=iP h;clear h h0 hm hL;generalize L.length=n at*;go_enter func180,ntmps180
 go_wp2_with fail
 refine h1.mono ?_;rintro e w1 ⟨rfl,_,B1⟩;go_wp2_with fail
 refine(h2 _).mono ?_;rintro e w2 ⟨rfl,rfl⟩;go_wp2_with fail
 refine(h3 _ cL).mono ?_;rintro e w3 ⟨rfl,kz⟩;subst w3;go_wp2
 go_ret
 exact⟨rfl,B1⟩
theorem Sk(p q:cP)(M:List cP)(h:dx p=some [])(hM:M≠[])(h0:dx q=some M)(w:af)(hm:dG w):
  aq prog 180 #[.s p,.s q] w fun e w'=>e=.returned (.F)∧cF w w':=by
 have h1:=jl p h w;have h2:=gY q M h0 hM w hm;have hl:=iP h0;have hp:0<M.length:=au.2 hM;clear h h0 hm hM;generalize M.length=n at*;go_enter func180,ntmps180
 go_wp2_with fail
 refine h1.mono ?_;rintro e w1 ⟨rfl,rfl⟩;go_wp2_with fail
 refine h2.mono ?_;rintro e w1 ⟨rfl,_,B1⟩;go_wp2
 go_ret
 exact⟨rfl,B1⟩
theorem Sn(p q:cP)(L M:List cP)(h:dx p=some L)(hL:L≠[])(h0:dx q=some M)(hgt:L.length<M.length)(w:af)(hm:dG w):
  aq prog 180 #[.s p,.s q] w fun e w'=>e=.returned (.F)∧cF w w':=by
 have h1:=gY p L h hL w hm;have h2:=fun(W:af) (hW:cF w W)=>gY q M h0 (fun e=>by rw[e] at hgt;simp at hgt) W (hm.kept hW)
 have H2:=cE h2;have hl:=iP h;have hl2:=iP h0;clear h h0 hm hL h2;generalize L.length=n at*;generalize M.length=k at*;go_enter func180,ntmps180
 go_wp2_with fail
 refine h1.mono ?_;rintro e w1 ⟨rfl,_,B1⟩;go_wp2_with fail
 refine(H2.out _ B1).mono ?_;rintro e w2 ⟨rfl,_,B2⟩;have HB:=cE (B1.trans (B2.mono B1.size));clear B1 B2;go_wp2
 go_ret
 exact⟨rfl,HB.out⟩
theorem Sm(p q:cP)(L M:List cP)(h:dx p=some L)(hM:M≠[])(h0:dx q=some M)(hle:M.length≤L.length)(w:af)(hm:dG w):
  aq prog 180 #[.s p,.s q] w fun e w'=>e=.returned (.bool (decide (L.take M.length=M)))∧cF w w':=by
 have hp:0<M.length:=au.2 hM;have h1:=gY p L h (fun e=>by rw[e] at hle;simp at hle;exact hM hle) w hm;have h2:=fun(W:af) (hW:cF w W)=>gY q M h0 hM W (hm.kept hW)
 have H2:=cE h2;have hl:=iP h;have hl2:=iP h0;have h3:=fun(W:af) (g:Nat) (a:qG W w.heap.size L) (b:qG W g M)=>Q8 w.heap.size L.length g M.length L M W a.at b.at cL hle
 have H3:=cE h3;clear h h0 hm h2 h3 hM;generalize decide (L.take M.length=M)=r at*;generalize hn:L.length=n at*;generalize hk:M.length=k at*;clear hn hk;go_enter func180,ntmps180
 go_wp2_with fail
 refine h1.mono ?_;rintro e w1 ⟨rfl,A1,B1⟩;go_wp2_with fail
 refine(H2.out _ B1).mono ?_;rintro e w2 ⟨rfl,A2,B2⟩;have h3:=H3.out w2 w1.heap.size (A1.kept B2 A1.lt) A2;have HB:=cE (B1.trans (B2.mono B1.size));clear B1 B2 A1 A2;go_wp2_with fail
 refine h3.mono ?_;rintro e w3 ⟨rfl,q3,rfl⟩;have iG:=cE (show cF w (w2.drewN q3) from⟨HB.out.os,HB.out.tape,HB.out.output,HB.out.size,HB.out.block⟩);clear h3;go_wp2
 go_ret
 exact⟨rfl,iG.out⟩
theorem OV(p q:cP)(hp:(bs p).size≤9223372036854775807)(hq:(bs q).size≤9223372036854775807)(w:af)(hm:dG w):
  aq prog 180 #[.s p,.s q] w fun e w'=>e=.returned (.bool (dX p q))∧cF w w':=by
 unfold dX;cases h1:dx p with
 |none=>exact Sr p q hp hq h1 w hm
 |some L=>
 cases h2:dx q with
 |none=>exact Sq p q L hq h1 h2 w hm
 |some M=>
 dsimp only;by_cases hM:M=[]
 ·subst hM
  simp only[List.length_nil,Nat.zero_le,decide_true,List.take_zero,Bool.and_true];by_cases hL:L=[]
  ·subst hL
   exact Sl p q h1 h2 w
  exact Sj p q L h1 hL h2 w hm
 by_cases hle:M.length≤L.length
 ·rw[decide_eq_true hle,Bool.true_and]
  exact Sm p q L M h1 hM h2 hle w hm
 rw[decide_eq_false hle,aA];by_cases hL:L=[]
 ·subst hL
  exact Sk p q M h1 hM h2 w hm
 exact Sn p q L M h1 hL h2 cL w hm
theorem TL(l:cP):zh (bs l)=(l.isEmpty||l==[46]||l==[46,46]):=by unfold zh;rw[o6]
def okC(l:cP):Bool:=!(l.isEmpty||l==[46]||l==[46,46])&&iE (bs l) l.length 0
theorem DZ(l:cP):gm l=okC l:=by unfold gm oC okC;rw[TL,eP]
def Bk:cP→Option (List cP)
 |[]=>none
 |c::r=>if c=47∧r.length<64 then (if r=[] then some [] else if (gE r).all okC then some (gE r) else none) else none
theorem sE(l:cP):dx l=Bk l:=by
 cases l with
 |nil=>rfl
 |cons c r=>
 rw[oy,show gm=okC from funext DZ];rfl
def Kn(p q:cP):Bool:=
 match Bk p,Bk q with
 |some l,some m=>decide (m.length≤l.length)&&decide (l.take m.length=m)
 |_,_=>false
theorem OW(p q:cP):dX p q=Kn p q:=by unfold dX Kn;rw[sE,sE]<;>rfl
theorem Yx(l:cP)(i:Nat)(h:i<(bs l).size):(bs l)[i]'h=l[i]'(by rw[eP] at h;exact h):=by
 simp[bs,ByteArray.getElem_eq_getElem_data]
def SlS(w:af)(B:Nat)(a:Option Addr)(L:List cP):Prop:=∀j x,L[j]?=some x→∃g,a=some ⟨g,0,none⟩∧g<B∧w.cell? ⟨g,j,none⟩=some (.s x)
theorem Xc{w:af}{base:Nat}{v:ay}{n:Nat}{L:List cP}(h:w.ownsRow base 9 1 v n (L.map sv)):∃a c,v=.slice a L.length c∧SlS w w.heap.size a L:=by
 rcases PE h with ⟨rfl,rfl⟩|⟨g,cap,rfl,_,_,hg,hat⟩
 ·exact⟨none,0,rfl,fun j x hx=>by simp at hx⟩
 exact⟨_,cap,rfl,fun j x hx=>⟨g,rfl,hg,by have:=hat j x hx;rwa [Nat.zero_add] at this⟩⟩
theorem Vc(a b:cP):bs a++bs b=bs (a++b):=by
 have h:(bs a++bs b).data.toList=(bs (a++b)).data.toList:=by
  rw[gr];simp[bs]
 rw[←sP (bs a++bs b),h,sP]
theorem Fu(L:List cP)(k:Nat)(x:cP)(hx:L[k]?=some x):eG (L.take (k+1))=eG (L.take k)++47::x:=by
 rw[aG,hx];simp[eG]
def zO(w:af)(n:Nat)(args:Array ay)(r:ay):Prop:=∀W,cF w W→aq prog n args W fun e w'=>e=.returned r∧cF w w'
theorem nI{w:af}{n:Nat}{args:Array ay}{r:ay}(hm:dG w)(h:∀W,dG W→aq prog n args W fun e w'=>e=.returned r∧cF W w'):zO w n args r:=
 fun W hW=>(h W (hm.kept hW)).mono fun e w' ⟨he,hb⟩=>⟨he,hW.trans (hb.mono hW.size)⟩
theorem BF{w:af}{n:Nat}{args:Array ay}{r:ay}(h:∀W,aq prog n args W fun e w'=>e=.returned r∧W=w'):zO w n args r:=
 fun W hW=>(h W).mono fun e w' ⟨he,hb⟩=>⟨he,hb▸hW⟩
theorem pz{l:cP}{n:Nat}(h:l.length≤n)(hn:n≤1000):(bs l).size≤9223372036854775807:=by rw[eP];omega
theorem rG(w:af)(hm:dG w)(p q:cP)(hp:p.length≤1000)(hq:q.length≤1000):zO w 180 #[.s p,.s q] (.bool (dX p q)):=
 nI hm fun W h=>OV p q (pz hp (aj _)) (pz hq (aj _)) W h
def uO(l:cP):Int:=if (dx l).isSome then 0 else 30
theorem rH(w:af)(hm:dG w)(l:cP)(hl:l.length≤1000):zO w 104 #[.s l] (.i (uO l)):=by
 unfold uO;cases h:dx l with
 |none=>exact nI hm fun W hW=>ME l h (pz hl (aj _)) W hW
 |some L=>exact nI hm fun W hW=>MD l L h W hW
def cW(l:cP):cP:=match dx l with
 |none=>[]
 |some L=>if L=[] then l else zX L.dropLast
def jG(l:cP):cP:=match dx l with
 |none=>[]
 |some L=>L.getLast?.getD []
theorem AO{α:Type}(L:List α):L=[]∨∃M x,L=M++[x]:=by
 rcases List.eq_nil_or_concat L with h|⟨M,x,h⟩
 ·exact .inl h
 exact .inr ⟨M,x,by rw[h,List.concat_eq_append]⟩
theorem mK(w:af)(hm:dG w)(l:cP)(hl:l.length≤1000):zO w 54 #[.s l] (.string (bs (cW l))):=by
 unfold cW;cases h:dx l with
 |none=>exact nI hm fun W hW=>Ig l h (pz hl (aj _)) W hW
 |some L=>
 rcases AO L with rfl|⟨M,x,rfl⟩
 ·exact BF fun W=>Lg l h W
 dsimp only;rw[if_neg cN,aC];exact nI hm fun W hW=>Ie l M x h W hW
theorem Lw(w:af)(hm:dG w)(l:cP)(hl:l.length≤1000):zO w 55 #[.s l] (.string (bs (jG l))):=by
 unfold jG;cases h:dx l with
 |none=>exact nI hm fun W hW=>Rx l h (pz hl (aj _)) W hW
 |some L=>
 rcases AO L with rfl|⟨M,x,rfl⟩
 ·exact BF fun W=>Vp l h W
 dsimp only;rw[show(M++[x]).getLast?.getD []=x by simp];exact nI hm fun W hW=>Rw l M x h W hW
theorem Gs(s:ByteArray)(i:Nat):∀k,1≤k→k<(aB s i).2→wW s (i+k)=true:=by
 intro k hk1 hk2;rw[Cg] at hk2;split at hk2
 ·simp only at hk2;omega
 split at hk2
 ·rename_i _ h
  simp only[ag] at h;split at hk2
  ·obtain rfl:k=1:=by simp only at hk2;omega
   exact h.2
  simp only at hk2;omega
 split at hk2
 ·rename_i _ _ h
  simp only[ag] at h;split at hk2
  ·rcases(show k=1∨k=2 by simp only at hk2;omega) with rfl|rfl
   ·exact h.1.2
   exact h.2
  simp only at hk2;omega
 split at hk2
 ·rename_i _ _ _ h
  simp only[ag] at h;split at hk2
  ·rcases(show k=1∨k=2∨k=3 by simp only at hk2;omega) with rfl|rfl|rfl
   ·exact h.1.1.2
   ·exact h.1.2
   exact h.2
  simp only at hk2;omega
 simp only at hk2;omega
theorem Og(s:ByteArray):∀(b pos:Nat),iE s b pos=true→s.size≤pos+b→∀j,pos≤j→j<s.size→wW s j=true∨Gu (aB s j).1=false
 |0,pos,_,h,j,h1,h2=>by omega
 |b+1,pos,hg,h,j,h1,h2=>by
  have hp:pos<s.size:=by omega
  rw[EJ s b pos hp,ag,Bool.not_eq_true'] at hg;by_cases hj:j<pos+(aB s pos).2
  ·by_cases he:j=pos
   ·subst he
    exact .inr hg.1
   ·obtain⟨k,rfl⟩:∃k,j=pos+k:=⟨j - pos,by omega⟩
    exact .inl (Gs s pos k cL cL)
  ·have:=Dy s pos hp
   exact Og s b _ hg.2 cL j cL h2
theorem Qa{l:cP}(h:gm l=true):iE (bs l) (bs l).size 0=true:=by
 unfold gm oC at h;rw[ag] at h;exact h.2
theorem aco(l:cP)(j:Nat)(h:j<l.length):(bs l).get! j=l[j]:=by
 rw[UD (bs l) j (by rw[eP];exact h),Yx]
theorem Xs(l:cP)(h:gm l=true)(j:Nat)(hj:j<l.length)(c:UInt8)(hc:l[j]=c)(h1:(c.toNat / 64==2)=false)(h2:c.toNat<32∨c=47∨c=127∨248≤c.toNat∨c=192):False:=by
 have hj':j<(bs l).size:=by rw[eP];exact hj
 have Db:(bs l).get! j=c:=by rw[aco l j hj,hc]
 rcases Og (bs l) _ 0 (Qa h) cL j (Nat.zero_le _) hj' with h3|h3
 ·unfold wW at h3
  rw[Db,h1] at h3;simp at h3
 rw[Cg,Db] at h3;rcases h2 with h2|rfl|rfl|h2|rfl
 ·rw[if_pos cL] at h3
  simp[Gu] at h3;omega
 ·rw[if_pos cM] at h3
  exact absurd h3 cM
 ·rw[if_pos cM] at h3
  exact absurd h3 cM
 ·have e1:(c.toNat / 32==6)=false:=by simp;omega
  have e2:(c.toNat / 16==14)=false:=by simp;omega
  have e3:(c.toNat / 8==30)=false:=by simp;omega
  rw[if_neg cL,e1,e2,e3] at h3;simp only[aA,aF,if_false] at h3;exact absurd h3 cM
 have e0:(192:UInt8).toNat=192:=rfl;rw[e0] at h3;rw[if_neg cL] at h3;split at h3
 ·rw[if_neg cL] at h3
  exact absurd h3 cM
 simp only[show(192 / 16==14)=false from rfl,show(192 / 8==30)=false from rfl,aA,aF,if_false] at h3;exact absurd h3 cM
theorem Qb{l:cP}(h:gm l=true):(47:UInt8)∉l:=by
 intro hm;obtain⟨j,hj,hc⟩:=List.mem_iff_getElem.1 hm;exact Xs l h j hj 47 hc rfl (.inr (.inl rfl))
theorem NK{l:cP}(h:gm l=true):l≠[]:=by
 rintro rfl;rw[DZ] at h;exact absurd h cM
theorem Tb(L:List cP)(h1:∀x∈L,gm x=true)(h2:(zX L).length≤64):dx (zX L)=some L:=by
 cases L with
 |nil=>rfl
 |cons x L=>
 have hs:zX (x::L)=47::(x++eG L):=by rw[vW];simp[eG]
 rw[hs] at h2⊢;have Ja:gE (x++eG L)=x::L:=vJ x L (fun y hy=>Qb (h1 y hy));rw[oy,if_pos ⟨rfl,by simp only[List.length_cons] at h2;omega⟩,if_neg,Ja,if_pos (List.all_eq_true.2 h1)];have:=NK (h1 x cN);intro e;cases x with
 |nil=>exact this rfl
 |cons a b=>cases e
theorem Bj{l:cP}{L:List cP}(h:dx l=some L):∀x∈L,gm x=true:=by
 obtain⟨r,rfl,hs,⟨rfl,rfl⟩|⟨h1,rfl,h3⟩⟩:=iC h
 ·simp
 exact List.all_eq_true.1 h3
theorem TF(L:List cP)(k:Nat)(x:cP)(hx:L[k]?=some x):(eG (L.take (k+1))).length=(eG (L.take k)).length+1+x.length:=by
 rw[Fu L k x hx,List.length_append,List.length_cons];omega
theorem Br(L:List cP)(hL:L≠[]):(zX L).length=(eG L).length:=by
 cases L with
 |nil=>exact absurd rfl hL
 |cons x L=>rw[vW]
theorem AE{l:cP}{L:List cP}(h:dx l=some L)(k:Nat):(zX (L.take k)).length≤64:=by
 have h1:=tE h;have h2:=qt L k;by_cases he:L.take k=[]
 ·rw[he];decide
 rw[Br _ he];omega
theorem Bi{l:cP}{L:List cP}(h:dx l=some L)(k:Nat):dx (zX (L.take k))=some (L.take k):=
 Tb _ (fun x hx=>Bj h x (List.mem_of_mem_take hx)) (AE h k)
theorem shorter{l:cP}{L:List cP}(h:dx l=some L)(k:Nat)(hk:k<L.length):(zX (L.take k)).length<(zX (L.take (k+1))).length:=by
 have hx:=aa hk;have h1:=TF L k _ hx;have hne:=NK (Bj h L[k] (List.getElem_mem _));have hpos:0<(L[k]).length:=au.2 hne;have hL1:L.take (k+1)≠[]:=by
  intro e;have:(L.take (k+1)).length=0:=by rw[e];rfl
  rw[List.length_take] at this;omega
 rw[Br _ hL1,h1];have:=NH (L.take k);omega
theorem ot{p q:cP}{L M:List cP}(h1:dx p=some L)(h2:dx q=some M):dX p q=true↔M <+: L:=by
 unfold dX;rw[h1,h2];simp only[ag,decide_eq_true_eq];exact⟨fun h=>by rw[←h.2];exact List.take_prefix _ _,fun h=>⟨h.length_le,(List.prefix_iff_eq_take.1 h).symm⟩⟩
theorem O2(L:List cP)(k:Nat)(hk:k<L.length):L.take (k+1)=L.take k++[L[k]]:=by
 rw[aG,aa hk];rfl
theorem WL{α:Type}(M:List α)(x:α):M++[x]≠[]:=by cases M<;>simp
theorem Ic{l:cP}{L:List cP}(h:dx l=some L)(k:Nat)(hk:k<L.length):cW (zX (L.take (k+1)))=zX (L.take k):=by
 unfold cW;rw[Bi h (k+1)];show(if L.take (k+1)=[] then _ else zX (L.take (k+1)).dropLast)=_;rw[O2 L k hk,if_neg (WL _ _),aC]
structure VY where
 ajG:Array Obj
 drawn:Nat
instance:Inhabited VY:=⟨⟨#[],0⟩⟩
def gN(W:af)(o:VY):af:={W with heap:=W.heap++o.ajG,drawn:=o.drawn}
theorem gN.below(W:af)(o:VY):cF W (gN W o):=
 ⟨rfl,rfl,rfl,by simp[gN],fun k hk=>by simp[gN,an,hk]⟩
theorem yH{W w':af}(h:cF W w'):∃o,w'=gN W o:=by
 refine⟨⟨w'.heap.extract W.heap.size w'.heap.size,w'.drawn⟩,?_⟩;have hh:w'.heap=W.heap++w'.heap.extract W.heap.size w'.heap.size:=by
  apply Array.ext_getElem?;intro i;by_cases hi:i<W.heap.size
  ·rw[an,if_pos hi]
   exact h.block i hi
  have:=h.size;rw[an,if_neg hi,Array.getElem?_extract];split
  ·congr 1;omega
  rw[Array.getElem?_eq_none];omega
 obtain⟨h1,h2,h3,_,_⟩:=h;cases w';cases W;simp only at*;subst h1 h2 h3;simp only[gN];rw[←hh]
theorem lK{P:Program}{id:Nat}{Q:Exit→Act→af→Prop}{a:Act}{w:af}{l:List Oper}(hm:P.follows .mixedOrders=true)(hB:Region.lexB .any l.toArray=true)
  (h:wpQuiet P l.toArray (fun w'=>∃o,w'=gN w o) (fun a'=>∀w',(∃o,w'=gN w o)→Q .normal a' w') l a):(Code.region id l.toArray true).wp P Q a w:=
 wp_region_quiet (C:=fun w'=>∃o,w'=gN w o) hm hB (yH (aE _ w).drew) (by simpa using h)
theorem Qn{w:af}{n:Nat}{args:Array ay}{r:ay}(h:zO w n args r):∀o,aq prog n args (gN w o) fun e w'=>e=.returned r∧∃o',w'=gN w o':=
 fun o=>(h _ (gN.below w o)).mono fun _ _ ⟨he,hb⟩=>⟨he,yH hb⟩
def jF(r:cP):Nat:=match dx r with
 |none=>0
 |some L=>L.length
def FM(p:cP)(s:Int×Int)(i:Nat)(r:cP):Int×Int:=if dX p r=true∧s.2<(jF r:Int) then ((i:Int),(jF r:Int)) else s
def kX(L:List cP)(p:cP):Nat→Int×Int
 |0=>(-1,-1)
 |k+1=>match L[k]? with
  |none=>kX L p k
  |some r=>FM p (kX L p k) k r
def Ao(L:List cP)(p:cP):Int:=(kX L p L.length).1
theorem Ea{L:List cP}{p r:cP}{k:Nat}(h:L[k]?=some r):kX L p (k+1)=FM p (kX L p k) k r:=by
 simp[kX,h]
theorem Jt(r:cP):jF r≤64:=by
 unfold jF;cases h:dx r with
 |none=>simp
 |some L=>exact iP h
def aam(L:List cP)(p:cP)(k:Nat)(s:Int×Int):Prop:=
 (s=(-1,-1)∧∀j r,j<k→L[j]?=some r→dX p r=false)∨
 ∃i r,i<k∧L[i]?=some r∧dX p r=true∧s=((i:Int),(jF r:Int))∧
  ∀j q,j<k→L[j]?=some q→dX p q=true→jF q≤jF r∧(j<i→jF q<jF r)
theorem Bq(L:List cP)(p:cP):∀k,k≤L.length→aam L p k (kX L p k)
 |0,_=>.inl ⟨rfl,fun j r h=>absurd h (Nat.not_lt_zero _)⟩
 |k+1,hk=>by
  have ih:=Bq L p k cL;obtain⟨r,hr⟩:∃r,L[k]?=some r:=⟨_,aa cL⟩;rw[Ea hr];unfold FM;rcases ih with ⟨h1,h2⟩|⟨i,q,hi,hq,hu,h1,h2⟩
  ·rw[h1]
   by_cases hu:dX p r=true
   ·rw[if_pos ⟨hu,by have:=Int.natCast_nonneg (jF r);omega⟩]
    refine .inr ⟨k,r,by omega,hr,hu,rfl,fun j q hj hq hqu=>?_⟩;rcases ah.1 hj with hj|rfl
    ·rw[h2 j q hj hq] at hqu;cases hqu
    ·rw[hr] at hq;cases hq
     exact⟨aj _,fun h=>absurd h (Nat.lt_irrefl _)⟩
   ·rw[if_neg (fun h=>hu h.1)]
    refine .inl ⟨rfl,fun j q hj hq=>?_⟩;rcases ah.1 hj with hj|rfl
    ·exact h2 j q hj hq
    ·rw[hr] at hq;cases hq
     simpa using hu
  ·rw[h1]
   by_cases hc:dX p r=true∧jF q<jF r
   ·rw[if_pos ⟨hc.1,by have:=hc.2;show(jF q:Int)<_;omega⟩]
    refine .inr ⟨k,r,by omega,hr,hc.1,rfl,fun j x hj hx hxu=>?_⟩;rcases ah.1 hj with hj|rfl
    ·have:=(h2 j x hj hx hxu).1
     exact⟨by omega,fun _=>by omega⟩
    ·rw[hr] at hx;cases hx
     exact⟨aj _,fun h=>absurd h (Nat.lt_irrefl _)⟩
   ·rw[if_neg (fun h=>hc ⟨h.1,by have:=h.2;change (jF q:Int)<_ at this;omega⟩)]
    refine .inr ⟨i,q,by omega,hq,hu,rfl,fun j x hj hx hxu=>?_⟩;rcases ah.1 hj with hj|rfl
    ·exact h2 j x hj hx hxu
    ·rw[hr] at hx;cases hx
     exact⟨Nat.le_of_not_lt fun h=>hc ⟨hxu,h⟩,fun h=>by omega⟩
theorem Xi(L:List cP)(p:cP)(k:Nat)(hk:k≤L.length):-1≤(kX L p k).1∧(kX L p k).1<k∧-1≤(kX L p k).2∧(kX L p k).2≤64∨k=0∧kX L p k=(-1,-1):=by
 rcases Bq L p k hk with ⟨h1,_⟩|⟨i,q,hi,_,_,h1,_⟩
 ·rw[h1]
  by_cases h0:k=0
  ·exact .inr ⟨h0,rfl⟩
  exact .inl ⟨by omega,by show(-1:Int)<_;omega,by omega,by show(-1:Int)≤_;omega⟩
 rw[h1];have:=Jt q;exact .inl ⟨by show -1≤(i:Int);omega,by show(i:Int)<_;omega,by show -1≤(jF q:Int);omega,by show(jF q:Int)≤_;omega⟩
theorem Xh(L:List cP)(p:cP)(k:Nat)(hk:k≤L.length):-1≤(kX L p k).1∧(kX L p k).1≤k∧-1≤(kX L p k).2∧(kX L p k).2≤64:=by
 rcases Xi L p k hk with h|⟨rfl,h⟩
 ·omega
 rw[h];simp
def mz(L:List cP):Int:=if L.length<1∨4<L.length∨¬L.Nodup then 1 else if L.all (fun x=>(dx x).isSome) then 0 else 30
theorem Th(L:List cP)(p:cP):aam L p L.length (kX L p L.length):=Bq L p _ (aj _)
end
