/- Part 30. -/
import Derived.Test.YtdpaejbaoefdjaaGreatDoorQ29
import Derived.Test.YtdpaejbaoefdjaaGreatDoorQ19
open Go.RowKit.Below renaming refl → aa,heap_alloc → aB
open List renaming append_assoc → af,getElem?_eq_getElem → ag,length_append → ah,getElem?_eq_some_iff → ay,size_toArray → aA,flatMap_cons → aE,getElem?_map → aF,mem_cons_self → aI,range → aK,mem_cons_of_mem → aL,append_nil → aO,getElem?_eq_none → aS,length_map → aU,foldl_cons → aV,length_cons → aZ,any_eq_true → bu,length_nil → bA,mem_range → bB,take_of_length_le → bG,mem_of_getElem? → bJ,take_add_one → bL,ext_getElem? → bM
open Go renaming World → aj,wpList_store_mid → aC,Value → aD,lt_of_block → aN,Calls → aQ,Addr → aR,heap_alloc_new → aT,wpList_load_mid → aX,wpAnyH_done → bg,bodyPost_ret → bq,Ending → bH,Program → bK
open Go.World renaming rangeAt_setCells_same → an
open Nat renaming le_trans → aq,le_refl → aG,lt_of_lt_of_le → aJ,zero_add → aM,lt_of_le_of_lt → aY
open Go.Proofs renaming enters_of → au
open Option renaming map_eq_some_iff → aH
open Go.RowKit renaming wrap64 → aP,wrap64 → bC
open Go.Value renaming oneCell' → aW,int → bF
open Bool renaming and_eq_false_iff → bh,and_eq_true → bz
namespace Go.Proofs.YtdpaejbaoefdjaaGreatDoor
open Go.Proofs.Tryz
set_option maxRecDepth 100000
set_option maxHeartbeats 64000000
set_option linter.unusedVariables false
set_option linter.unusedSimpArgs false
def oF{α:Type}(P:α→Prop)(f:α→cP):Prop:=∀x y s t,P x→P y→f x++s=f y++t→x=y∧s=t
theorem mT(n:Nat):oF (fun v=>v<256 ^ n) (dI n):=fun x y s t hx hy h=>by
 obtain⟨h1,h2⟩:=List.append_inj h (by rw[dw,dw]);refine⟨?_,h2⟩;have:=congrArg mG h1
 rwa [DC hx,DC hy] at this
theorem fL:oF (fun v=>v<18446744073709551616) (dI 8):=fun x y s t hx hy=>mT 8 x y s t hx hy
theorem TM{x y:Int}(hx:-9223372036854775808≤x∧x<9223372036854775808)(hy:-9223372036854775808≤y∧y<9223372036854775808)(h:oN x=oN y):x=y:=by
 unfold oN at h;omega
def mW(x:Int):Prop:=-9223372036854775808≤x∧x<9223372036854775808
theorem gV:oF mW (fun v=>dI 8 (oN v)):=fun x y s t hx hy h=>by
 obtain⟨h1,h2⟩:=fL _ _ s t (FZ x) (FZ y) h;exact⟨TM hx hy h1,h2⟩
theorem su:oF zL (fun v=>dI 8 v.toNat):=fun x y s t hx hy h=>by
 obtain⟨a,rfl,ha⟩:=hx.nat;obtain⟨b,rfl,hb⟩:=hy.nat;obtain⟨h1,h2⟩:=fL _ _ s t (show(a:Int).toNat<18446744073709551616 by omega) (show(b:Int).toNat<18446744073709551616 by omega) h;exact⟨by omega,h2⟩
theorem xK:oF Oy (fun v=>dI 8 v.toNat):=fun x y s t hx hy h=>by
 obtain⟨a,rfl,ha⟩:=hx.nat;obtain⟨b,rfl,hb⟩:=hy.nat;obtain⟨h1,h2⟩:=fL _ _ s t (show(a:Int).toNat<18446744073709551616 by omega) (show(b:Int).toNat<18446744073709551616 by omega) h;exact⟨by omega,h2⟩
theorem uJ:oF (fun _=>True) (fun g=>dI 1 (tR g)):=fun x y s t _ _ h=>by
 have hb:∀g,tR g<256 ^ 1:=fun g=>by unfold tR;split<;>decide
 obtain⟨h1,h2⟩:=mT 1 _ _ s t (hb x) (hb y) h;refine⟨?_,h2⟩;cases x<;>cases y<;>simp[tR] at h1⊢
def IsT(D:cP):Prop:=D.length<4294967296
theorem qg:oF IsT nk:=fun x y s t hx hy h=>by
 unfold nk at h;rw[af,af] at h;obtain⟨h1,h2⟩:=mT 4 _ _ _ _ hx hy h;exact List.append_inj h2 h1
theorem wP{α β γ:Type}{P:α→Prop}{Q:β→Prop}{f:α→List γ}{g:β→List γ}(H:∀x y s t,P x→Q y→f x++s=g y++t→f x=g y∧s=t):∀(L:List α) (M:List β) (s t:List γ),L.length=M.length→(∀x∈L,P x)→(∀y∈M,Q y)→L.flatMap f++s=M.flatMap g++t→(∀(k:Nat) x y,L[k]?=some x→M[k]?=some y→f x=g y)∧s=t
 |[],[],s,t,_,_,_,h=>⟨fun k x y hx=>by simp at hx,by simpa using h⟩
 |[],_::_,_,_,h,_,_,_=>by simp at h
 |_::_,[],_,_,h,_,_,_=>by simp at h
 |x::L,y::M,s,t,hl,hp,hq,h=>by
  rw[aE,aE,af,af] at h;obtain⟨h1,h2⟩:=H x y _ _ (hp x (aI ..)) (hq y (aI ..)) h;obtain⟨h3,h4⟩:=wP H L M s t (by simpa using hl) (fun z hz=>hp z (aL _ hz)) (fun z hz=>hq z (aL _ hz)) h2;refine⟨fun k u v hu hv=>?_,h4⟩;cases k with
  |zero=>
   simp at hu hv;subst hu hv;exact h1
  |succ k=>
   simp at hu hv;exact h3 k u v hu hv
theorem BZ{α:Type}{P:α→Prop}{f:α→cP}(H:oF P f)(L M:List α)(s t:cP)(hl:L.length=M.length)(hL:∀x∈L,P x)(hM:∀x∈M,P x)(h:L.flatMap f++s=M.flatMap f++t):L=M∧s=t:=by
 obtain⟨h1,h2⟩:=wP (P:=P) (Q:=P) (f:=f) (g:=f) (fun x y s t hx hy h=>by obtain⟨e,QX⟩:=H x y s t hx hy h;exact⟨by rw[e],QX⟩) L M s t hl hL hM h;refine⟨bM fun k=>?_,h2⟩;by_cases hk:k<L.length
 ·have e1:=ag hk
  have e2:=ag (show k<M.length by omega);rw[e1,e2];have h3:=h1 k _ _ e1 e2;obtain⟨h4,_⟩:=H _ _ [] [] (hL _ (List.getElem_mem hk)) (hM _ (List.getElem_mem (show k<M.length by omega))) (by rw[h3]);rw[h4]
 rw[aS cL,aS cL]
def IsS(V:List Nat):Prop:=V.length<18446744073709551616∧Cu V
theorem qV:oF IsS iK:=fun x y s t hx hy h=>by
 unfold iK at h;rw[af,af] at h;obtain⟨h1,h2⟩:=fL _ _ _ _ hx.1 hy.1 h;exact BZ fL x y s t h1 hx.2 hy.2 h2
theorem KH{s n s' n':Int}{a b:cP}(h1:0≤s∧s<256)(h2:zL n)(h3:0≤s'∧s'<256)(h4:zL n')(h:kY s n++a=kY s' n'++b):s=s'∧n=n'∧a=b:=by
 unfold kY at h;rw[af,af] at h;obtain⟨g1,g2⟩:=mT 1 _ _ _ _ (show(s % 256).toNat<256 ^ 1 by omega) (show(s' % 256).toNat<256 ^ 1 by omega) h;obtain⟨g3,g4⟩:=su _ _ _ _ h2 h4 g2;exact⟨by omega,g3,g4⟩
structure IsN(d:Nd):Prop where
 data:IsT d.data
 num:tY d.num
 os:0≤d.num.os∧d.num.os<256
theorem Ln:oF IsN yX:=fun x y s t hx hy h=>by
 obtain⟨D,q⟩:=x;obtain⟨E,p⟩:=y;unfold yX at h;simp only[af] at h;obtain⟨g1,QX⟩:=qg _ _ _ _ hx.data hy.data h;obtain⟨g2,L4⟩:=su _ _ _ _ hx.num.gS hy.num.gS QX;obtain⟨g3,Ut⟩:=su _ _ _ _ hx.num.C5 hy.num.C5 L4;obtain⟨g4,h3x⟩:=su _ _ _ _ hx.num.next hy.num.next Ut;obtain⟨g5,g6,h4x⟩:=KH hx.os hx.num.on hy.os hy.num.on h3x;obtain⟨g7,h5x⟩:=xK _ _ _ _ hx.num.made hy.num.made h4x;obtain⟨g8,h6x⟩:=xK _ _ _ _ hx.num.EY hy.num.EY h5x;obtain⟨g9,h7x⟩:=xK _ _ _ _ hx.num.DG hy.num.DG h6x;obtain⟨a1,a2,a3,a4,a5,a6,a7,a8⟩:=q;obtain⟨b1,b2,b3,b4,b5,b6,b7,b8⟩:=p;dsimp only at g1 g2 g3 g4 g5 g6 g7 g8 g9;subst g1 g2 g3 g4 g5 g6 g7 g8 g9;exact⟨rfl,h7x⟩
structure IsE(e:gh):Prop where
 path:IsT e.path
 node:IsN e.node
 gone:e.gone=true→e.node=iN
theorem Rb:oF IsE wU:=fun x y s t hx hy h=>by
 obtain⟨p,g,d⟩:=x;obtain⟨p',g',d'⟩:=y;unfold wU at h;simp only[af] at h;obtain⟨g1,QX⟩:=qg _ _ _ _ hx.path hy.path h;obtain⟨g2,L4⟩:=uJ _ _ _ _ trivial trivial QX;dsimp only at g1 g2 L4;subst g1 g2;cases g with
 |true=>
  rw[show d=iN from hx.gone rfl,show d'=iN from hy.gone rfl];exact⟨rfl,by simpa using L4⟩
 |false=>
  simp only[Bool.false_eq_true,if_false] at L4;obtain⟨g3,Ut⟩:=Ln _ _ _ _ hx.node hy.node L4;dsimp only at g3;subst g3;exact⟨rfl,Ut⟩
structure IsM(x:gK):Prop where
 ew:mW x.ew
 aeA:0≤x.ew∧x.ew<256
 seq:x.seq<18446744073709551616
 dK:mW x.dK
 ep:x.ep<18446744073709551616
 stamp:IsS x.stamp
 dB:x.dB.length<18446744073709551616
 Oi:∀e∈x.dB,IsE e
 cl:x.cl<4294967296
theorem Ml:oF (fun E:List gh=>E.length<18446744073709551616∧∀e∈E,IsE e) wS:=fun x y s t hx hy h=>by
 unfold wS at h;rw[af,af] at h;obtain⟨h1,h2⟩:=fL _ _ _ _ hx.1 hy.1 h;exact BZ Rb x y s t h1 hx.2 hy.2 h2
theorem LB:oF IsM nK:=fun x y s t hx hy h=>by
 unfold nK at h;simp only[af] at h;obtain⟨g1,QX⟩:=mT 1 _ _ _ _ (show(x.ew % 256).toNat<256 ^ 1 by omega) (show(y.ew % 256).toNat<256 ^ 1 by omega) h;obtain⟨g2,L4⟩:=fL _ _ _ _ hx.seq hy.seq QX;obtain⟨g3,Ut⟩:=gV _ _ _ _ hx.dK hy.dK L4;obtain⟨g4,h3x⟩:=fL _ _ _ _ hx.ep hy.ep Ut;obtain⟨g5,h4x⟩:=qV _ _ _ _ hx.stamp hy.stamp h3x;obtain⟨g6,h5x⟩:=Ml _ _ _ _ ⟨hx.dB,hx.Oi⟩ ⟨hy.dB,hy.Oi⟩ h4x;obtain⟨g7,h6x⟩:=fL _ _ _ _ (show x.cl<18446744073709551616 by have:=hx.cl;omega) (show y.cl<18446744073709551616 by have:=hy.cl;omega) h5x;have g0:x.ew=y.ew:=by have:=hx.aeA;have:=hy.aeA;omega
 obtain⟨a1,a2,a3,a4,a5,a6,a7⟩:=x;obtain⟨b1,b2,b3,b4,b5,b6,b7⟩:=y;dsimp only at g0 g2 g3 g4 g5 g6 g7;subst g0 g2 g3 g4 g5 g6 g7;exact⟨rfl,h6x⟩
structure IsO(o:eC):Prop where
 kind:0≤o.kind∧o.kind<256
 path:IsT o.path
 data:IsT o.data
 gS:mW o.gS
theorem uF:oF IsO opHead:=fun x y s t hx hy h=>by
 unfold opHead at h;simp only[af] at h;obtain⟨g1,QX⟩:=mT 1 _ _ _ _ (show x.kind.toNat<256 ^ 1 by have:=hx.kind;omega) (show y.kind.toNat<256 ^ 1 by have:=hy.kind;omega) h;obtain⟨g2,L4⟩:=qg _ _ _ _ hx.path hy.path QX;obtain⟨g3,Ut⟩:=qg _ _ _ _ hx.data hy.data L4;obtain⟨g4,h3x⟩:=gV _ _ _ _ hx.gS hy.gS Ut;obtain⟨g5,h4x⟩:=uJ _ _ _ _ trivial trivial h3x;obtain⟨g6,h5x⟩:=uJ _ _ _ _ trivial trivial h4x;have g0:x.kind=y.kind:=by have:=hx.kind;have:=hy.kind;omega
 obtain⟨a1,a2,a3,a4,a5,a6⟩:=x;obtain⟨b1,b2,b3,b4,b5,b6⟩:=y;dsimp only at g0 g2 g3 g4 g5 g6;subst g0 g2 g3 g4 g5 g6;exact⟨rfl,h5x⟩
def lJ:Nat→cP→Prop
 |0,_=>False
 |n+1,D=>∃(o:eC) (Ds:List cP),IsO o∧D=opHead o++(dI 8 Ds.length++Ds.flatten)∧Ds.length<18446744073709551616∧∀d∈Ds,lJ n d
theorem As{α:Type}(L:List (List α)):L.flatten=L.flatMap id:=by simp[List.flatMap]
theorem uM:∀(n m:Nat) (D E s t:cP),lJ n D→lJ m E→D++s=E++t→D=E∧s=t
 |0,_,_,_,_,_,h,_,_=>h.elim
 |_+1,0,_,_,_,_,_,h,_=>h.elim
 |n+1,m+1,D,E,s,t,hD,hE,h=>by
  obtain⟨o,Ds,h1,rfl,h3,h4⟩:=hD;obtain⟨o',Es,g1,rfl,g3,g4⟩:=hE;simp only[af] at h;obtain⟨e1,QX⟩:=uF _ _ _ _ h1 g1 h;obtain⟨e2,L4⟩:=fL _ _ _ _ h3 g3 QX;rw[As,As] at L4;obtain⟨e3,Ut⟩:=wP (P:=lJ n) (Q:=lJ m) (f:=id) (g:=id) (fun x y s t hx hy h=>uM n m x y s t hx hy h) Ds Es s t e2 h4 g4 L4;subst e1;have:Ds=Es:=bM fun k=>by
   by_cases hk:k<Ds.length
   ·have q1:=ag hk
    have q2:=ag (show k<Es.length by omega);rw[q1,q2];exact congrArg some (e3 k _ _ q1 q2)
   ·rw[aS cL,aS cL]
  subst this;exact⟨rfl,Ut⟩
theorem BA{α:Type}(f:α→cP)(ps:List α):(ps.map f).flatten=ps.flatMap f:=by simp[List.flatMap]
theorem Il{o:eC}{ps:List eC}(ho:IsO o)(hl:ps.length<18446744073709551616)(hp:∀p∈ps,IsO p):lJ 2 (V5 o ps):=by
 refine⟨o,ps.map (fun p=>opHead p++(dI 8 0++[])),ho,?_,by rw[aU];exact hl,fun d hd=>?_⟩
 ·rw[aU,BA]
  rfl
 obtain⟨p,hp',rfl⟩:=List.mem_map.1 hd;exact⟨p,[],hp p hp',rfl,by decide,fun d hd=>by cases hd⟩
structure IsX(x:iS):Prop where
 kind:x.kind<256
 oh:x.oh<4294967296
 req:x.req<4294967296
 os:mW x.os
 on:x.on<4294967296
 op:∃n,lJ n x.Ik
 site:mW x.site
 dK:mW x.dK
 ep:x.ep<18446744073709551616
 fr:IsS x.fr
 dY:x.kind=4→IsM x.dY
 ew:mW x.dY.ew
 I6:mW x.dY.dK
 seq:x.dY.seq<18446744073709551616
 iep:x.dY.ep<18446744073709551616
 stamp:IsS x.dY.stamp
 dB:x.dY.dB.length<18446744073709551616
 cl:x.dY.cl<4294967296
structure Is(x:iS)(v:fR):Prop where
 kind:x.kind=v.kind
 oh:x.oh=v.oh
 req:x.req=v.req
 os:x.os=v.os
 on:x.on=v.on
 op:x.Ik=V5 v.op v.parts
 dY:x.dY=v.dY
 site:x.site=v.site
 dK:x.dK=v.dK
 ep:x.ep=v.ep
 fr:x.fr=v.fr
theorem XN{X V:gK}(h1:X.ew=V.ew)(h2:X.seq=V.seq)(h3:X.dK=V.dK)(h4:X.ep=V.ep)(h5:X.stamp=V.stamp)(h6:X.dB=V.dB)(h7:X.cl=V.cl):X=V:=by
 cases X;cases V;dsimp only at*;subst h1 h2 h3 h4 h5 h6 h7;rfl
theorem uh{x:Nat}:mW (aP x):=by unfold mW aP;omega
theorem Kj{x y:Nat}(hx:x<18446744073709551616)(hy:y<18446744073709551616)(h:aP x=aP y):x=y:=by unfold aP at h;omega
theorem GP{x:iS}{v:fR}(hx:IsX x)(hv:IsX v.x)(h0:v.kind≠4→v.dY=ko)(h:qf x=qf v.x):Is x v:=by
 unfold qf qS at h;simp only[aE,List.flatMap_nil,aO,af] at h;have Iz:∀{n:Nat},n<9223372036854775808→mW (n:Int):=fun {n} h=>by unfold mW;omega
 obtain⟨g1,QX⟩:=gV _ _ _ _ (Iz (by have:=hx.kind;omega)) (Iz (by have:=hv.kind;omega)) h;obtain⟨g2,L4⟩:=gV _ _ _ _ (Iz (by have:=hx.oh;omega)) (Iz (by have:=hv.oh;omega)) QX;obtain⟨g3,Ut⟩:=gV _ _ _ _ (Iz (by have:=hx.req;omega)) (Iz (by have:=hv.req;omega)) L4;obtain⟨g4,h3x⟩:=gV _ _ _ _ hx.os hv.os Ut;obtain⟨g5,h4x⟩:=gV _ _ _ _ (Iz (by have:=hx.on;omega)) (Iz (by have:=hv.on;omega)) h3x;obtain⟨g6,h5x⟩:=gV _ _ _ _ hx.site hv.site h4x;obtain⟨g7,h6x⟩:=gV _ _ _ _ hx.dK hv.dK h5x;obtain⟨g8,h7x⟩:=gV _ _ _ _ uh uh h6x;obtain⟨g9,h8x⟩:=gV _ _ _ _ hx.ew hv.ew h7x;obtain⟨g10,h9x⟩:=gV _ _ _ _ hx.I6 hv.I6 h8x;obtain⟨n,hn⟩:=hx.op;obtain⟨m,hm⟩:=hv.op;obtain⟨g11,alp⟩:=uM n m _ _ _ _ hn hm h9x;obtain⟨g12,agJ⟩:=qV _ _ _ _ hx.fr hv.fr alp;have gk:x.kind=v.kind:=by have:(x.kind:Int)=(v.kind:Int):=g1;omega
 have gi:x.dY=v.dY:=by
  by_cases hk:v.kind=4
  ·exact(LB _ _ [] [] (hx.dY (gk.trans hk)) (hv.dY hk) (by rw[aO,aO];exact agJ)).1
  have hz:=h0 hk;have h2:nK x.dY++[]=nK v.dY++[]:=by rw[aO,aO];exact agJ
  have g9':x.dY.ew=v.dY.ew:=g9;unfold nK at h2;simp only[af] at h2;rw[←g9'] at h2;have h2:=List.append_cancel_left h2;obtain⟨q2,h2⟩:=fL _ _ _ _ hx.seq hv.seq h2;obtain⟨q3,h2⟩:=gV _ _ _ _ hx.I6 hv.I6 h2;obtain⟨q4,h2⟩:=fL _ _ _ _ hx.iep hv.iep h2;obtain⟨q5,h2⟩:=qV _ _ _ _ hx.stamp hv.stamp h2;unfold wS at h2;simp only[af] at h2;obtain⟨q6,h2⟩:=fL _ _ _ _ hx.dB hv.dB h2;have q6':x.dY.dB.length=v.dY.dB.length:=q6;have q7:x.dY.dB=[]:=List.eq_nil_of_length_eq_zero (by rw[q6',hz];rfl);have q8:v.dY.dB=[]:=by rw[hz];rfl
  have h3:dI 8 x.dY.cl++[]=dI 8 v.dY.cl++[]:=by
   rw[q7,q8] at h2;simpa using h2
  obtain⟨q9,_⟩:=fL _ _ [] [] (show x.dY.cl<18446744073709551616 by have:=hx.cl;omega) (show v.dY.cl<18446744073709551616 by have:v.dY.cl<4294967296:=hv.cl;omega) h3;have e5:x.dY.stamp=v.dY.stamp:=q5;have e2:x.dY.seq=v.dY.seq:=q2;have e3:x.dY.dK=v.dY.dK:=q3;have e4:x.dY.ep=v.dY.ep:=q4;exact XN g9' e2 e3 e4 e5 (q7.trans q8.symm) q9
 exact⟨gk,by have:(x.oh:Int)=(v.oh:Int):=g2;omega,by have:(x.req:Int)=(v.req:Int):=g3;omega,g4,by have:(x.on:Int)=(v.on:Int):=g5;omega,g11,gi,g6,g7,Kj hx.ep hv.ep g8,g12⟩
section
section
variable{r:Rd}
theorem Rd.gL(n:Nat)(h:r.bad=true):(r.take n).bad=true:=by unfold Rd.take;rw[if_pos h];exact h
theorem Rd.jU(h:r.bad=true):r.small.bad=true:=by
 unfold Rd.small;split
 ·rfl
 exact Rd.gL 8 h
theorem Rd.jV(n:Nat)(h:r.bad=true):(r.place n).bad=true:=by
 unfold Rd.place;split
 ·rfl
 exact Rd.gL 1 h
theorem Rd.Ny(n:Int)(h:r.bad=true):(r.dK n).bad=true:=by
 unfold Rd.dK;split
 ·rfl
 exact Rd.gL 8 h
theorem Rd.l9(n:Nat)(h:r.bad=true):(r.dQ n).bad=true:=by
 unfold Rd.dQ;split
 ·rfl
 exact Rd.gL 8 h
theorem Rd.o9(n:Nat)(h:r.bad=true):(r.text n).bad=true:=by
 unfold Rd.text;split
 ·rfl
 exact Rd.gL _ (Rd.gL 4 h)
theorem Rd.AQ(h:r.bad=true):r.ny.bad=true:=Rd.jU (Rd.jV 3 h)
theorem qq{f:Rd→Rd}(hf:∀{r:Rd},r.bad=true→(f r).bad=true)(h:r.bad=true):∀k:Nat,(Nat.repeat f k r).bad=true
 |0=>h
 |k+1=>hf (qq hf h k)
theorem Rd.DJ(h:r.bad=true):r.stamp.bad=true:=qq (fun h=>Rd.gL 8 h) (Rd.l9 3 h) _
theorem Rd.Ir(h:r.bad=true):r.node.bad=true:=Rd.gL 8 (Rd.gL 8 (Rd.gL 8 (Rd.AQ (Rd.jU (Rd.jU (Rd.jU (Rd.o9 64 h)))))))
theorem Rd.Oh(h:r.bad=true):r.Oi.bad=true:=by
 unfold Rd.Oi;split
 ·exact Rd.jV 2 (Rd.o9 64 h)
 exact Rd.Ir (Rd.jV 2 (Rd.o9 64 h))
theorem Rd.UW(k:Nat)(h:r.bad=true):(Rd.uL k r).bad=true:=qq (fun h=>Rd.Oh h) h k
theorem Rd.TK(h:r.bad=true):r.item.bad=true:=Rd.jU (Rd.UW _ (Rd.l9 16 (Rd.DJ (Rd.gL 8 (Rd.Ny (-1) (Rd.gL 8 (Rd.jV 3 h)))))))
theorem Rd.IU(h:r.bad=true):r.leaf.bad=true:=Rd.jV 2 (Rd.jV 2 (Rd.gL 8 (Rd.o9 64 (Rd.o9 64 (Rd.gL 1 h)))))
theorem Rd.NG(h:r.bad=true):r.Zk.bad=true:=Rd.l9 0 (Rd.IU h)
theorem Rd.NC(k:Nat)(h:r.bad=true):(Rd.FL k r).bad=true:=qq (fun h=>Rd.NG h) h k
theorem Pt.rz(p:Pt)(h:r.bad=true):(p.rd r).bad=true:=by
 cases p with
 |client=>exact Rd.jU (Rd.jU h)
 |owner=>exact Rd.AQ h
 |op=>exact Rd.NC _ (Rd.l9 6 (Rd.IU h))
 |item=>exact Rd.TK h
 |site=>exact Rd.jV 3 h
 |place=>exact Rd.Ny 0 h
 |epoch=>exact Rd.gL 8 h
 |stamp=>exact Rd.DJ h
theorem kJ{b:Rd}(hf:r.bad=true→b.bad=true)(h:b.bad=false):r.bad=false:=by
 cases e:r.bad with
 |false=>rfl
 |true=>rw[hf e] at h;cases h
theorem Rd.Aj{n:Nat}(h:(r.take n).bad=false):r.bad=false:=kJ (b:=(r.take n)) (fun h=>Rd.gL n h) h
theorem Rd.vH(h:r.small.bad=false):r.bad=false:=kJ (b:=r.small) (fun h=>Rd.jU h) h
theorem Rd.vS{n:Nat}(h:(r.place n).bad=false):r.bad=false:=kJ (b:=(r.place n)) (fun h=>Rd.jV n h) h
theorem Rd.Ck{n:Nat}(h:(r.dQ n).bad=false):r.bad=false:=kJ (b:=(r.dQ n)) (fun h=>Rd.l9 n h) h
theorem Rd.WJ{n:Nat}(h:(r.text n).bad=false):r.bad=false:=kJ (b:=(r.text n)) (fun h=>Rd.o9 n h) h
theorem Rd.WO(h:r.ny.bad=false):r.bad=false:=kJ (b:=r.ny) (fun h=>Rd.AQ h) h
theorem Rd.Xj(h:r.node.bad=false):r.bad=false:=kJ (b:=r.node) (fun h=>Rd.Ir h) h
theorem Rd.acr(h:r.Oi.bad=false):r.bad=false:=kJ (b:=r.Oi) (fun h=>Rd.Oh h) h
theorem Rd.aba(h:r.Zk.bad=false):r.bad=false:=kJ (b:=r.Zk) (fun h=>Rd.NG h) h
theorem Rd.aa9{k:Nat}(h:(Rd.FL k r).bad=false):r.bad=false:=kJ (b:=(Rd.FL k r)) (fun h=>Rd.NC k h) h
theorem Rd.qU{n:Nat}(h:(r.text n).bad=false):r.nj.length≤n:=by
 unfold Rd.text at h;split at h
 ·cases h
 omega
theorem Rd.Pz(r:Rd){n:Nat}(hn:0<n):r.iu n<n:=by
 unfold Rd.iu;split<;>omega
theorem Rd.Nz(r:Rd){n:Int}(h0:n≤0):n≤r.pF n∧r.pF n<4:=by
 unfold Rd.pF;split<;>omega
theorem Rd.count_le(r:Rd)(n:Nat):r.count n≤n:=by
 unfold Rd.count;split<;>omega
end
structure Fh(d:Nd):Prop where
 data:d.data.length≤64
 num:tY d.num
 os:0≤d.num.os∧d.num.os<3
structure rY(e:gh):Prop where
 path:e.path.length≤64
 node:Fh e.node
 gone:e.gone=true→e.node=iN
structure Dq(x:gK):Prop where
 ew:0≤x.ew∧x.ew<3
 seq:x.seq<18446744073709551616
 dK:-1≤x.dK∧x.dK<4
 ep:x.ep<18446744073709551616
 stamp:x.stamp.length≤3∧Cu x.stamp
 dB:x.dB.length≤16∧∀e∈x.dB,rY e
 cl:x.cl<4294967296
structure uS(o:eC):Prop where
 kind:0≤o.kind∧o.kind<256
 path:o.path.length≤64
 data:o.data.length≤64
 gS:mW o.gS
structure mC(v:fR):Prop where
 kind:v.kind<256
 oh:v.oh<4294967296
 req:v.req<4294967296
 os:0≤v.os∧v.os<3
 on:v.on<4294967296
 op:uS v.op
 pl:v.parts.length≤6
 parts:∀p∈v.parts,uS p
 dY:Dq v.dY
 site:0≤v.site∧v.site<3
 dK:0≤v.dK∧v.dK<4
 ep:v.ep<18446744073709551616
 fr:v.fr.length≤3∧Cu v.fr
theorem Na:Fh iN:=⟨by simp[iN],Sg,by decide⟩
theorem aaI:Dq ko:=⟨by decide,by decide,by decide,by decide,⟨by decide,fun v hv=>by cases hv⟩,⟨by decide,fun v hv=>by cases hv⟩,by decide⟩
theorem aaH:uS WA:=⟨by decide,by decide,by decide,by unfold mW WA;decide⟩
theorem mC.zero{k:Nat}(h:k<256):mC (fR.zero k):=⟨h,by simp[fR.zero],by simp[fR.zero],by simp[fR.zero],by simp[fR.zero],aaH,by simp[fR.zero],fun p hp=>(by simp[fR.zero] at hp),aaI,by simp[fR.zero],by simp[fR.zero],by simp[fR.zero],⟨by simp[fR.zero],fun v hv=>by simp[fR.zero] at hv⟩⟩
theorem FE(r:Rd):(0:Int)≤(r.iu 3:Nat)∧((r.iu 3:Nat):Int)<3:=⟨by omega,by have:=r.Pz (n:=3) cM;omega⟩
theorem aeB{r:Rd}(h:r.node.bad=false):Fh r.Eb:=by
 have h:((((((((r.text 64).small).small).small).ny).take 8).take 8).take 8).bad=false:=h;have h1:(r.text 64).bad=false:=Rd.vH (Rd.vH (Rd.vH (Rd.WO (Rd.Aj (Rd.Aj (Rd.Aj h))))));exact⟨Rd.qU h1,r.Tl,FE _⟩
theorem alq{r:Rd}(h:r.Oi.bad=false):rY r.yz:=by
 unfold Rd.Oi at h;by_cases hg:(r.text 64).wR=true
 ·rw[if_pos hg] at h
  have h1:(r.text 64).bad=false:=Rd.vS h;refine⟨Rd.qU h1,?_,fun _=>?_⟩
  ·unfold Rd.yz
   dsimp only;rw[if_pos hg];exact Na
  unfold Rd.yz;dsimp only;rw[if_pos hg]
 rw[if_neg hg] at h;have h2:=aeB h;have h1:(r.text 64).bad=false:=Rd.vS (Rd.Xj h);refine⟨Rd.qU h1,?_,fun e=>absurd e hg⟩;unfold Rd.yz;dsimp only;rw[if_neg hg];exact h2
theorem Z9{r:Rd}:∀k:Nat,(Rd.uL k r).bad=false→∀e∈Rd.rO k r,rY e
 |0,_,e,he=>by cases he
 |k+1,h,e,he=>by
  have h0:(Rd.uL k r).bad=false:=Rd.acr h;unfold Rd.rO at he;rcases List.mem_append.1 he with h1|h1
  ·exact Z9 k h0 e h1
  ·simp at h1
   subst h1;exact alq h
theorem SB(r:Rd):r.qh.length≤3∧Cu r.qh:=⟨by rw[Rd.Kv];exact Rd.count_le _ _,Rd.Io _ _⟩
theorem ae9{r:Rd}(h:r.item.bad=false):Dq r.wD:=by
 unfold Rd.item at h;unfold Rd.wD;dsimp only at h⊢;generalize h0:(((r.place 3).take 8).dK (-1)).take 8=r3 at h⊢;have h5:=Rd.vH h;have hl:(Rd.rO (r3.stamp.count 16) (r3.stamp.dQ 16)).length≤16:=by rw[Rd.Jp];exact Rd.count_le _ _
 exact⟨FE r,Rd.PM (r.place 3),Rd.Nz ((r.place 3).take 8) cM,Rd.PM _,SB r3,⟨hl,Z9 _ h5⟩,Rd.pq _⟩
theorem Zm{r:Rd}(h:r.leaf.bad=false):uS r.js:=by
 have h:((((((r.take 1).text 64).text 64).take 8).place 2).place 2).bad=false:=h;have h3:(((r.take 1).text 64).text 64).bad=false:=Rd.Aj (Rd.vS (Rd.vS h));have h2:((r.take 1).text 64).bad=false:=Rd.WJ h3;exact⟨⟨by show(0:Int)≤(r.num 1:Nat);omega,by have:=r.Tj;show((r.num 1:Nat):Int)<256;omega⟩,Rd.qU h2,Rd.qU h3,uh⟩
theorem Rd.NB:∀(k:Nat) (r:Rd),(Rd.Ii k r).length=k
 |0,_=>rfl
 |k+1,r=>by unfold Rd.Ii;rw[ah,Rd.NB k r];rfl
theorem Tf(k:Nat)(r:Rd):Rd.FL (k+1) r=Rd.Zk (Rd.FL k r):=by simp only[Rd.FL,Nat.repeat]
theorem Xx{r:Rd}(k:Nat):(Rd.FL k r).bad=false→∀e∈Rd.Ii k r,uS e:=by
 induction k with
 |zero=>intro _ e he;simp[Rd.Ii] at he
 |succ k ih=>
  intro h e he;rw[Tf] at h;have h0:(Rd.FL k r).bad=false:=Rd.aba h;unfold Rd.Ii at he;rcases List.mem_append.1 he with h1|h1
  ·exact ih h0 e h1
  unfold Rd.Zk at h;simp at h1;subst h1;exact Zm (Rd.Ck h)
theorem mC.op_{x:fR}(hx:mC x){o:eC}{P:List eC}(h1:uS o)(h2:P.length≤6)(h3:∀p∈P,uS p):mC {x with op:=o,parts:=P}:=⟨hx.kind,hx.oh,hx.req,hx.os,hx.on,h1,h2,h3,hx.dY,hx.site,hx.dK,hx.ep,hx.fr⟩
theorem mC.ajO{x:fR}(hx:mC x){i:gK}(h1:Dq i):mC {x with dY:=i}:=⟨hx.kind,hx.oh,hx.req,hx.os,hx.on,hx.op,hx.pl,hx.parts,h1,hx.site,hx.dK,hx.ep,hx.fr⟩
theorem mC.alu{x:fR}(hx:mC x){a b:Nat}(h1:a<4294967296)(h2:b<4294967296):mC {x with oh:=a,req:=b}:=⟨hx.kind,h1,h2,hx.os,hx.on,hx.op,hx.pl,hx.parts,hx.dY,hx.site,hx.dK,hx.ep,hx.fr⟩
theorem mC.ajD{x:fR}(hx:mC x){a:Int}{b:Nat}(h1:0≤a∧a<3)(h2:b<4294967296):mC {x with os:=a,on:=b}:=⟨hx.kind,hx.oh,hx.req,h1,h2,hx.op,hx.pl,hx.parts,hx.dY,hx.site,hx.dK,hx.ep,hx.fr⟩
theorem mC.aei{x:fR}(hx:mC x){a:Int}(h1:0≤a∧a<3):mC {x with site:=a}:=⟨hx.kind,hx.oh,hx.req,hx.os,hx.on,hx.op,hx.pl,hx.parts,hx.dY,h1,hx.dK,hx.ep,hx.fr⟩
theorem mC.ajy{x:fR}(hx:mC x){a:Int}(h1:0≤a∧a<4):mC {x with dK:=a}:=⟨hx.kind,hx.oh,hx.req,hx.os,hx.on,hx.op,hx.pl,hx.parts,hx.dY,hx.site,h1,hx.ep,hx.fr⟩
theorem mC.ep_{x:fR}(hx:mC x){a:Nat}(h1:a<18446744073709551616):mC {x with ep:=a}:=⟨hx.kind,hx.oh,hx.req,hx.os,hx.on,hx.op,hx.pl,hx.parts,hx.dY,hx.site,hx.dK,h1,hx.fr⟩
theorem mC.fr_{x:fR}(hx:mC x){V:List Nat}(h1:V.length≤3∧Cu V):mC {x with fr:=V}:=⟨hx.kind,hx.oh,hx.req,hx.os,hx.on,hx.op,hx.pl,hx.parts,hx.dY,hx.site,hx.dK,hx.ep,h1⟩
theorem ajE{r:Rd}(h:(Rd.FL (r.leaf.count 6) (r.leaf.dQ 6)).bad=false):uS r.js∧(Rd.Ii (r.leaf.count 6) (r.leaf.dQ 6)).length≤6∧∀p∈Rd.Ii (r.leaf.count 6) (r.leaf.dQ 6),uS p:=
 ⟨Zm (Rd.Ck (Rd.aa9 h)),by rw[Rd.NB];exact Rd.count_le _ _,Xx _ h⟩
theorem mC.step{p:Pt}{r:Rd}{x:fR}(hx:mC x)(h:(p.rd r).bad=false):mC (p.get r x):=by
 cases p with
 |client=>simp only[Pt.get];exact hx.alu (Rd.pq r) (Rd.pq r.small)
 |owner=>simp only[Pt.get];exact hx.ajD (FE r) (Rd.pq (r.place 3))
 |op=>
  obtain⟨h1,h2,h3⟩:=ajE (show(Rd.FL (r.leaf.count 6) (r.leaf.dQ 6)).bad=false from h);simp only[Pt.get];exact hx.op_ h1 h2 h3
 |item=>
  have h1:=ae9 (show r.item.bad=false from h);simp only[Pt.get];exact hx.ajO h1
 |site=>simp only[Pt.get];exact hx.aei (FE r)
 |place=>simp only[Pt.get];exact hx.ajy (Rd.Nz r cM)
 |epoch=>simp only[Pt.get];exact hx.ep_ (Rd.PM r)
 |stamp=>simp only[Pt.get];exact hx.fr_ (SB r)
theorem UI(l:List Pt):∀s:Rd×fR,s.1.bad=true→(l.foldl ja s).1.bad=true:=by
 induction l with
 |nil=>intro s h;exact h
 |cons p l ih=>intro s h;rw[aV];exact ih _ (p.rz h)
theorem mC.fold(l:List Pt):∀s:Rd×fR,mC s.2→(l.foldl ja s).1.bad=false→mC (l.foldl ja s).2:=by
 induction l with
 |nil=>intro s h _;exact h
 |cons p l ih=>
  intro s hx h;rw[aV] at h⊢;have h1:(p.rd s.1).bad=false:=kJ (b:=(l.foldl ja (ja s p)).1) (fun e=>UI l (ja s p) e) h;exact ih _ (hx.step h1) h
theorem ox{D:cP}(h:mh D=true):mC (ey D):=by
 unfold mh at h;simp only[bz,decide_eq_true_eq] at h;have hb:(DQ D).1.bad=false:=by
  have h2:=h.2;unfold EW at h2;split at h2
  ·cases h2
  rename_i h3
  cases e:(DQ D).1.bad with
  |false=>rfl
  |true=>exact absurd (.inl e) h3
 exact mC.fold _ _ (mC.zero (Rd.Tj _)) hb
theorem SY(x:fR)(v:Int):({x with dK:=v}:fR).kind=x.kind:=rfl
theorem WU(x:fR)(v:Int):({x with dK:=v}:fR).dY=x.dY:=rfl
theorem UB(p:Pt)(r:Rd)(x:fR):(p.get r x).kind=x.kind:=by
 cases p with
 |place=>exact SY x (r.pF 0)
 |_=>rfl
theorem Yo(p:Pt)(r:Rd)(x:fR)(h:p≠.item):(p.get r x).dY=x.dY:=by
 cases p with
 |place=>exact WU x (r.pF 0)
 |item=>exact absurd rfl h
 |_=>rfl
theorem O4(s:Rd×fR)(p:Pt):(ja s p).2.kind=s.2.kind:=UB p s.1 s.2
theorem SA(s:Rd×fR)(p:Pt)(h:p≠.item):(ja s p).2.dY=s.2.dY:=Yo p s.1 s.2 h
theorem Q5(l:List Pt):∀s:Rd×fR,(l.foldl ja s).2.kind=s.2.kind:=by
 induction l with
 |nil=>intro s;rfl
 |cons p l ih=>intro s;rw[aV,ih,O4]
theorem UH(l:List Pt):∀s:Rd×fR,Pt.item∉l→(l.foldl ja s).2.dY=s.2.dY:=by
 induction l with
 |nil=>intro s _;rfl
 |cons p l ih=>intro s h;rw[aV,ih _ (fun e=>h (aL _ e)),SA _ _ (fun e=>h (by rw[e];exact aI))]
theorem KX(D:cP):(ey D).kind=(⟨D,false⟩:Rd).num 1:=Q5 _ _
theorem Ib{k:Nat}(h:k≠4):Pt.item∉fe k:=by
 unfold fe;split<;>first|decide|exact absurd rfl h
theorem Pp{D:cP}(h:(ey D).kind≠4):(ey D).dY=ko:=by
 rw[KX] at h;exact UH _ _ (Ib h)
theorem Fh.is{d:Nd}(h:Fh d):IsN d:=⟨aY h.data cM,h.num,by have:=h.os;omega⟩
theorem rY.is{e:gh}(h:rY e):IsE e:=⟨aY h.path cM,h.node.is,h.gone⟩
theorem Dq.is{x:gK}(h:Dq x):IsM x:=⟨by have:=h.ew;unfold mW;omega,by have:=h.ew;omega,h.seq,by have:=h.dK;unfold mW;omega,h.ep,⟨by have:=h.stamp.1;omega,h.stamp.2⟩,by have:=h.dB.1;omega,fun e he=>(h.dB.2 e he).is,h.cl⟩
theorem uS.is{o:eC}(h:uS o):IsO o:=⟨h.kind,aY h.path cM,aY h.data cM,h.gS⟩
theorem mC.is{v:fR}(h:mC v):IsX v.x:=by
 have hi:=h.dY.is;exact⟨h.kind,h.oh,h.req,by have:=h.os;unfold mW;show _≤v.os∧v.os<_;omega,h.on,⟨2,Il h.op.is (by have:=h.pl;omega) (fun p hp=>(h.parts p hp).is)⟩,by have:=h.site;unfold mW;show _≤v.site∧v.site<_;omega,by have:=h.dK;unfold mW;show _≤v.dK∧v.dK<_;omega,h.ep,⟨by have:=h.fr.1;show v.fr.length<_;omega,h.fr.2⟩,fun _=>hi,hi.ew,hi.dK,hi.seq,hi.ep,hi.stamp,hi.dB,hi.cl⟩
theorem Pr{x:iS}(hx:IsX x)(h:FD x=0):mE (vR x)=true∧mC (ey (vR x))∧Is x (ey (vR x)):=by
 obtain⟨_,h2,h3,_⟩:=FB h;have h4:mh (vR x)=true:=by
  unfold mE at h2;simp only[bz] at h2;exact h2.1
 have h5:=ox h4;exact⟨h2,h5,GP hx h5.is (fun e=>Pp e) h3⟩
end
section
open Go.RowKit Go.Shelf Go.MapKept Go.ChangeMaps
theorem UN(w:aj)(a:Option aR)(n c:Nat):(binOp .eql 37 (.slice a n c) (.n)).run prog w=.ok (.bool a.isNone) w:=Lib.run_eql_slice_nil w _ _ a n c 0 0 underlying37
def jI(w:aj)(V:List Nat)(e:bH)(w':aj):Prop:=∃v,e=.returned v∧w'.ownsRow w.heap.size 36 1 v V.length (ng V)∧cF w w'
theorem lH(w:aj)(ao:Option aR)(c:Nat)(lo:Nat→Prop)(V:List Nat)(hl:V.length≤1000000000)(h:dr w lo ao V):
  aQ prog 46 #[.slice ao V.length c] w (jI w V):=by
 cases ao with
 |none=>
  have hV:V=[]:=by
   cases V with
   |nil=>rfl
   |cons v r=>
   obtain⟨b,off,e,_⟩:=h 0 v rfl;cases e
  subst hV;have q:=fun w:aj=>UN w none 0 c
  clear h;go_enter func46,ntmps46
  go_wp2
  go_ret
  exact⟨_,rfl,World.ownsRow_nil w _ 36 1,aa _ _⟩
 |some ad=>
 have q:=fun w:aj=>UN w (some ad) V.length c
 have hcells:∀j u,(ng V)[j]?=some u→(w.alloc (.cells #[] 36)).cell? (ad.add j)=some u:=fun j u hu=>by
  simp only[ng,aF,aH] at hu;obtain⟨x,hx,rfl⟩:=hu;obtain⟨b,off,e,_,h3,h4⟩:=h j x hx;cases e;rw[Addr.add_mid];exact((cR (aa _ w) _).cell (p:=⟨b,off+j,none⟩) h3).trans h4
 have zS:=cE hcells;have OK:=cE (World.ownsRow_made (base:=w.heap.size) (e:=36) (size:=1) w #[] 0 cL cM rfl);obtain⟨N,hN⟩:=cG V.length;have gM:(ng V).length=N*1:=by rw[hN];simp[ng]
 have GH:=cE gM;obtain⟨i0,hi,hz0,hz1,hz2⟩:=info_parts F0;have HI:=cE (cD hi (cD hz0 (cD hz1 hz2)));have HN:=cE hN;rw[←hN] at hl q⊢;clear h hcells gM hN hi hz0 hz1 hz2;go_enter func46,ntmps46
 go_wp2_with (at_builtin;refine ef rfl (.tmp 5) (.tmp 6) 37 rfl w.heap.size 36 i0 (.V) 1 8 underlying37 HI.out.1 HI.out.2.1 HI.out.2.2.1 HI.out.2.2.2 rfl cM _ _ _ rfl OK.out ad N c (ng V) rfl GH.out zS.out (by intro u hu;simp[ng] at hu;obtain⟨x,_,rfl⟩:=hu;rfl) (by unfold maxLen;omega) cL cN ?_;intro v3 w3 hown hgrow hwhere)
 have CN:cF w w3:=(cR (aa _ w) _).grown hgrow cN (fun g hg=>(OK.out.lt g hg).1);rw[aM] at hown;have VH:=cE hown;have mQ:=cE CN;clear hown hgrow hwhere CN;go_wp2
 go_ret
 refine⟨v3,rfl,?_,mQ.out⟩;have h3:=VH.out;have h4:=HN.out;subst h4;simpa using h3
theorem jI.sl{w w':aj}{V:List Nat}{e:bH}(h:jI w V e w'):∃a c,e=.returned (.slice a V.length c)∧w'.ownsRow w.heap.size 36 1 (.slice a V.length c) V.length (ng V)∧dr w' (fQ w.heap.size) a V∧cF w w':=by
 obtain⟨v,he,ho,hb⟩:=h;obtain⟨a,c,rfl⟩:=iA ho;exact⟨a,c,he,ho,(vF ho).1,hb⟩
theorem Tp(w:aj)(n:Nat)(hn:n≤3):aQ prog 44 #[.i n] w (jI w (List.replicate n 0)):=by
 obtain⟨i0,hi,hz0,hz1,hz2⟩:=info_parts F0;obtain⟨w1,hr,ho,hg⟩:=run_make_full (P:=prog) (w:=w) w.heap.size 37 36 i0 (.V) 1 underlying37 hi hz0 hz1 .i64 .i64 n (by rw[hz2];omega) (by unfold maxLen;omega) (aG _);rw[show(bF .u64 0).cells=#[bF .u64 0] from rfl,Nat.mul_one,toList_madeCells_one] at ho;have h1:decide ((n:Int)<0)=false:=by simp
 have h2:decide (3<(n:Int))=false:=by simp;omega
 have HO:=cE (cD ho (Below.grown (aa _ w) hg (aG _) (fun k hk=>by cases hk)));clear ho hg hi hz0 hz1 hz2;go_enter func44,ntmps44
 go_wp2
 go_ret
 refine⟨_,rfl,?_,HO.out.2⟩;simpa [ng] using HO.out.1
theorem Ss(V:List Nat)(i x:Nat):(ng V).set i (.v x)=ng (V.set i x):=by simp[ng,List.map_set]
theorem NU(w:aj)(ao:Option aR)(c:Nat)(lo:Nat→Prop)(V:List Nat)(i:Nat)(hi:i<V.length)(hl:V.length≤1000)(hv:V.getD i 0<18446744073709551615)(h:dr w lo ao V):
  aQ prog 251 #[.slice ao V.length c,.i i] w (jI w (lE V i)):=by
 have HC:=cE (lH w ao c lo V cL h);obtain⟨N,hN⟩:=cG V.length;have HN:=cE hN;have hvi:V[i]?=some (V.getD i 0):=by simp[List.getD,ag hi]
 have HV:=cE (cD hvi hv);rw[←hN] at hi hl HC⊢;clear h hvi hv hN;go_enter func251,ntmps251
 go_wp2_with fail
 refine HC.out.mono ?_;rintro e w1 C8;obtain⟨a,c1,rfl,ho,hst,hb⟩:=C8.sl;rw[←HN.out] at ho⊢;clear C8;obtain⟨g,rfl,Uj,EF⟩:∃g,a=some ⟨g,0,none⟩∧w.heap.size≤g∧g<w1.heap.size:=by
  rcases ho.2 with ⟨h1,h0⟩|⟨g,cap,cur,h1,zn,hg,_⟩
  ·omega
  cases h1;exact⟨g,rfl,zn,aN hg⟩
 have hc:=ho.cellAt i cL;rw[show(ng V)[i]?=some (.v (V.getD i 0)) by simp only[ng,aF];rw[HV.out.1];rfl] at hc;have hf:=ho.frozenAt i;obtain⟨ho2,hg2⟩:=ho.stored i (.v ((V.getD i 0+1:Nat):Int));rw[Ss] at ho2;obtain⟨x,hx⟩:=cG (V.getD i 0);rw[←hx] at hc ho2 hg2;have hx2:x<18446744073709551615:=by rw[hx];exact HV.out.2
 have HX:=cE hx;have HO:=cE (cD ho2 (Below.grown hb hg2 hb.size (fun k hk=>by cases hk;exact Uj)));clear ho hst ho2 hg2 hx hb;go_wp2
 go_ret
 refine⟨.slice (some ⟨g,0,none⟩) N c1,rfl,?_,HO.out.2⟩;have h1:=HO.out.1;rw[HX.out,Int.natCast_add] at h1;have h2:(lE V i).length=N:=by rw[HN.out];simp[lE]
 rw[h2,HX.out];exact h1
end
section
open Go.RowKit Go.Shelf Go.MapKept Go.ChangeMaps Go.Sort
open Go.Maps (Keyed)
def Pt.Dh:Pt→FuncId
 |.client=>123
 |.owner=>127
 |.op=>133
 |.item=>139
 |.site=>143
 |.place=>148
 |.epoch=>153
 |.stamp=>156
def Pt.qO:Pt→FuncId
 |.client=>125
 |.owner=>129
 |.op=>135
 |.item=>140
 |.site=>145
 |.place=>150
 |.epoch=>154
 |.stamp=>158
def Pt.CR:Pt→aD
 |.client=>.nilFunc
 |.owner=>.func (.func 131) #[] #[]
 |.op=>.func (.func 137) #[] #[]
 |.item=>.func (.func 142) #[] #[]
 |.site=>.func (.func 147) #[] #[]
 |.place=>.func (.func 152) #[] #[]
 |.epoch=>.nilFunc
 |.stamp=>.func (.func 160) #[] #[]
def Pt.cells(p:Pt):List aD:=[.func (.func p.Dh) #[] #[],.func (.func p.qO) #[] #[],p.CR]
theorem Pt.ki(p:Pt):p.cells.length=3:=rfl
def nT(w:aj)(base:Nat)(v:aD)(l:List Pt):Prop:=∃g,v=.slice (some ⟨g,0,none⟩) l.length l.length∧(base≤g∧g<w.heap.size)∧∀(k:Nat) p,l[k]?=some p→w.rangeAt g (k*3) p.cells
theorem nT.below{w w':aj}{base:Nat}{v:aD}{l:List Pt}(h:nT w base v l)(hb:cF w w'):nT w' base v l:=by
 obtain⟨g,h1,h2,h3⟩:=h;exact⟨g,h1,⟨h2.1,aJ h2.2 hb.size⟩,fun k p hk=>dA (h3 k p hk) hb h2.2⟩
def GC(w:aj)(base mb:Nat):Prop:=∃m:List (Nat×aD),dL prog 5 oL id w mb m∧∀k:Nat,(kindOk k=true→∃v,dF k m=some v∧nT w base v (fe k))∧(kindOk k=false→dF k m=none)
theorem Et{k:Nat}(hk:k<256):∃l,keyOf prog 5 (oL k)=some l:=by
 have hall:((aK 256).all fun j=>(keyOf prog 5 (oL j)).isSome)=true:=by kernel_rfl
 exact Option.isSome_iff_exists.1 (List.all_eq_true.1 hall k (bB.2 hk))
theorem GC.look{w:aj}{base mb:Nat}(h:GC w base mb)(k:Nat)(hk:k<256):∃v,(∀W,cF w W→(Instr.lookup 130 (.map (some mb)) (.b k) true).run prog W=.ok (.tuple #[v,.bool (kindOk k)]) W)∧(kindOk k=true→nT w base v (fe k))∧(kindOk k=false→v=.n):=by
 obtain⟨m,h1,h2⟩:=h;obtain⟨l,hl0⟩:=Et hk;refine⟨((dF k m).map id).getD (.n),fun W hW=>?_,fun e=>?_,fun e=>?_⟩
 ·have hz:(zeroValue 128).run prog W=.ok (.n) W:=by kernel_rfl
  have hl:=(h1.of_block (hW.block _ h1.lt)).mU iW eA underlying130 hz (a:=k) hl0;refine hl.trans ?_;cases e:kindOk k with
  |true=>
   obtain⟨v,g1,_⟩:=(h2 k).1 e;rw[g1];rfl
  |false=>rw[(h2 k).2 e];rfl
 ·obtain⟨v,g1,g2⟩:=(h2 k).1 e
  rw[g1];exact g2
 rw[(h2 k).2 e];rfl
theorem jg(P:bK)(w:aj)(a:aR)(f:Fn)(x y:Array aD)(m:Mode):
  (store a (.func f x y) m).run P w=match w.cell? a with
   |some _=>if w.frozen? a then .halt (.unsupported (.unsafePointer "a write to bytes that a string shares")) w else .ok () (w.setCell a (.func f x y))
   |none=>match w.farStore P a (.func f x y) (m==.atomic) with
    |.ok (w',_)=>.ok () w'
    |.error h=>.halt h w:=run_store P w a _ m rfl
theorem jf(P:bK)(w:aj)(a:aR)(m:Mode):
  (store a .nilFunc m).run P w=match w.cell? a with
   |some _=>if w.frozen? a then .halt (.unsupported (.unsafePointer "a write to bytes that a string shares")) w else .ok () (w.setCell a .nilFunc)
   |none=>match w.farStore P a .nilFunc (m==.atomic) with
    |.ok (w',_)=>.ok () w'
    |.error h=>.halt h w:=run_store P w a _ m rfl
attribute [local go_sem] jg jf
theorem EP:∀(L:List Pt) (k:Nat) (p:Pt),L[k]?=some p→∀j u,p.cells[j]?=some u→(L.flatMap Pt.cells)[k*3+j]?=some u
 |[],k,p,h,j,u,hu=>by simp at h
 |x::L,0,p,h,j,u,hu=>by
  simp at h;subst h;have hj:=(ay.1 hu).1;rw[aE,List.getElem?_append_left cL,Nat.zero_mul,aM];exact hu
 |x::L,k+1,p,h,j,u,hu=>by
  rw[aE,List.getElem?_append_right (by rw[Pt.ki];omega),Pt.ki,show(k+1)*3+j - 3=k*3+j by omega];exact EP L k p (by simpa using h) j u hu
theorem nT.new(w:aj)(base:Nat)(hb:base≤w.heap.size)(l:List Pt):nT (w.alloc (.cells (l.flatMap Pt.cells).toArray 137)) base (.slice (some ⟨w.heap.size,0,none⟩) l.length l.length) l:=
 ⟨w.heap.size,rfl,⟨hb,by simp⟩,fun k p hk j u hu=>by
  rw[cell_of_row _ _ (k*3+j) _ 137 (0,0) (aT w _)];simpa using EP l k p hk j u hu⟩
theorem nT.kept{w w':aj}{B n base:Nat}{l:List Pt}{S:Nat→Prop}(h:nT w base (.slice (some ⟨B,0,none⟩) n n) l)(hk:Kept S w w')(hB:¬S B):nT w' base (.slice (some ⟨B,0,none⟩) n n) l:=by
 obtain⟨g,h1,h2,h3⟩:=h;cases h1;exact⟨B,rfl,⟨h2.1,aJ h2.2 hk.size⟩,fun k p hp j u hu=>(hk.cell (p:=⟨B,k*3+j,none⟩) h2.2 hB).trans (h3 k p hp j u hu)⟩
theorem I1(w:aj):∃w8,w8=(((((((w.alloc (.cells #[.func (.func 123) #[] #[],.func (.func 125) #[] #[],.nilFunc] 137)).alloc (.cells #[.func (.func 127) #[] #[],.func (.func 129) #[] #[],.func (.func 131) #[] #[]] 137)).alloc (.cells #[.func (.func 133) #[] #[],.func (.func 135) #[] #[],.func (.func 137) #[] #[]] 137)).alloc (.cells #[.func (.func 139) #[] #[],.func (.func 140) #[] #[],.func (.func 142) #[] #[]] 137)).alloc (.cells #[.func (.func 143) #[] #[],.func (.func 145) #[] #[],.func (.func 147) #[] #[]] 137)).alloc (.cells #[.func (.func 148) #[] #[],.func (.func 150) #[] #[],.func (.func 152) #[] #[]] 137)).alloc (.cells #[.func (.func 153) #[] #[],.func (.func 154) #[] #[],.nilFunc] 137)).alloc (.cells #[.func (.func 156) #[] #[],.func (.func 158) #[] #[],.func (.func 160) #[] #[]] 137)∧cF w w8∧w8.heap.size=w.heap.size+1+1+1+1+1+1+1+1∧∀w',Kept (·=w.heap.size+1+1+1+1+1+1+1+1) w8 w'→w'.cell? ⟨w.heap.size,0,none⟩=some (.func (.func 123) #[] #[])∧w'.cell? ⟨w.heap.size,1,none⟩=some (.func (.func 125) #[] #[])∧w'.cell? ⟨w.heap.size,2,none⟩=some (.nilFunc)∧w'.cell? ⟨w.heap.size+1,0,none⟩=some (.func (.func 127) #[] #[])∧w'.cell? ⟨w.heap.size+1,1,none⟩=some (.func (.func 129) #[] #[])∧w'.cell? ⟨w.heap.size+1,2,none⟩=some (.func (.func 131) #[] #[])∧w'.cell? ⟨w.heap.size+1+1,0,none⟩=some (.func (.func 133) #[] #[])∧w'.cell? ⟨w.heap.size+1+1,1,none⟩=some (.func (.func 135) #[] #[])∧w'.cell? ⟨w.heap.size+1+1,2,none⟩=some (.func (.func 137) #[] #[])∧w'.cell? ⟨w.heap.size+1+1+1,0,none⟩=some (.func (.func 139) #[] #[])∧w'.cell? ⟨w.heap.size+1+1+1,1,none⟩=some (.func (.func 140) #[] #[])∧w'.cell? ⟨w.heap.size+1+1+1,2,none⟩=some (.func (.func 142) #[] #[])∧w'.cell? ⟨w.heap.size+1+1+1+1,0,none⟩=some (.func (.func 143) #[] #[])∧w'.cell? ⟨w.heap.size+1+1+1+1,1,none⟩=some (.func (.func 145) #[] #[])∧w'.cell? ⟨w.heap.size+1+1+1+1,2,none⟩=some (.func (.func 147) #[] #[])∧w'.cell? ⟨w.heap.size+1+1+1+1+1,0,none⟩=some (.func (.func 148) #[] #[])∧w'.cell? ⟨w.heap.size+1+1+1+1+1,1,none⟩=some (.func (.func 150) #[] #[])∧w'.cell? ⟨w.heap.size+1+1+1+1+1,2,none⟩=some (.func (.func 152) #[] #[])∧w'.cell? ⟨w.heap.size+1+1+1+1+1+1,0,none⟩=some (.func (.func 153) #[] #[])∧w'.cell? ⟨w.heap.size+1+1+1+1+1+1,1,none⟩=some (.func (.func 154) #[] #[])∧w'.cell? ⟨w.heap.size+1+1+1+1+1+1,2,none⟩=some (.nilFunc)∧w'.cell? ⟨w.heap.size+1+1+1+1+1+1+1,0,none⟩=some (.func (.func 156) #[] #[])∧w'.cell? ⟨w.heap.size+1+1+1+1+1+1+1,1,none⟩=some (.func (.func 158) #[] #[])∧w'.cell? ⟨w.heap.size+1+1+1+1+1+1+1,2,none⟩=some (.func (.func 160) #[] #[]):=by
 obtain⟨w1,hw1,de,hs1,kH⟩:=dO w [.func (.func 123) #[] #[],.func (.func 125) #[] #[],.nilFunc] 137;obtain⟨w2,eS,dz,hs2,hr2⟩:=dO w1 [.func (.func 127) #[] #[],.func (.func 129) #[] #[],.func (.func 131) #[] #[]] 137;obtain⟨w3,kz,eE,hs3,ED⟩:=dO w2 [.func (.func 133) #[] #[],.func (.func 135) #[] #[],.func (.func 137) #[] #[]] 137;obtain⟨w4,lP,hb4,hs4,We⟩:=dO w3 [.func (.func 139) #[] #[],.func (.func 140) #[] #[],.func (.func 142) #[] #[]] 137;obtain⟨w5,nM,jE,hs5,XZ⟩:=dO w4 [.func (.func 143) #[] #[],.func (.func 145) #[] #[],.func (.func 147) #[] #[]] 137;obtain⟨w6,l6,qb,NZ,RO⟩:=dO w5 [.func (.func 148) #[] #[],.func (.func 150) #[] #[],.func (.func 152) #[] #[]] 137;obtain⟨w7,nY,mL,XW,hr7⟩:=dO w6 [.func (.func 153) #[] #[],.func (.func 154) #[] #[],.nilFunc] 137;obtain⟨w8,uX,CI,NY,hr8⟩:=dO w7 [.func (.func 156) #[] #[],.func (.func 158) #[] #[],.func (.func 160) #[] #[]] 137;have e1:w1.heap.size=w.heap.size+1:=by rw[hs1]
 have e2:w2.heap.size=w.heap.size+1+1:=by rw[hs2,e1]
 have e3:w3.heap.size=w.heap.size+1+1+1:=by rw[hs3,e2]
 have e4:w4.heap.size=w.heap.size+1+1+1+1:=by rw[hs4,e3]
 have e5:w5.heap.size=w.heap.size+1+1+1+1+1:=by rw[hs5,e4]
 have e6:w6.heap.size=w.heap.size+1+1+1+1+1+1:=by rw[NZ,e5]
 have e7:w7.heap.size=w.heap.size+1+1+1+1+1+1+1:=by rw[XW,e6]
 have e8:w8.heap.size=w.heap.size+1+1+1+1+1+1+1+1:=by rw[NY,e7]
 have d8:cF w8 w8:=aa _ _;have d7:cF w7 w8:=CI.trans (d8.mono CI.size);have d6:cF w6 w8:=mL.trans (d7.mono mL.size);have d5:cF w5 w8:=qb.trans (d6.mono qb.size);have d4:cF w4 w8:=jE.trans (d5.mono jE.size);have d3:cF w3 w8:=hb4.trans (d4.mono hb4.size);have d2:cF w2 w8:=eE.trans (d3.mono eE.size);have d1:cF w1 w8:=dz.trans (d2.mono dz.size);refine⟨w8,by rw[uX,nY,l6,nM,lP,kz,eS,hw1],de.trans (d1.mono de.size),e8,fun w' hk=>?_⟩;have hc:∀(B c:Nat) (v:aD),B<w.heap.size+1+1+1+1+1+1+1+1→w8.cell? ⟨B,c,none⟩=some v→w'.cell? ⟨B,c,none⟩=some v:=fun B c v hB h=>(hk.cell (p:=⟨B,c,none⟩) (by show B<w8.heap.size;omega) (fun e=>by have e:B=w.heap.size+1+1+1+1+1+1+1+1:=e;omega)).trans h
 exact⟨hc _ _ _ cL (by exact kH w8 d1 0 _ rfl),hc _ _ _ cL (by exact kH w8 d1 1 _ rfl),hc _ _ _ cL (by exact kH w8 d1 2 _ rfl),hc _ _ _ cL (by rw[←e1];exact hr2 w8 d2 0 _ rfl),hc _ _ _ cL (by rw[←e1];exact hr2 w8 d2 1 _ rfl),hc _ _ _ cL (by rw[←e1];exact hr2 w8 d2 2 _ rfl),hc _ _ _ cL (by rw[←e2];exact ED w8 d3 0 _ rfl),hc _ _ _ cL (by rw[←e2];exact ED w8 d3 1 _ rfl),hc _ _ _ cL (by rw[←e2];exact ED w8 d3 2 _ rfl),hc _ _ _ cL (by rw[←e3];exact We w8 d4 0 _ rfl),hc _ _ _ cL (by rw[←e3];exact We w8 d4 1 _ rfl),hc _ _ _ cL (by rw[←e3];exact We w8 d4 2 _ rfl),hc _ _ _ cL (by rw[←e4];exact XZ w8 d5 0 _ rfl),hc _ _ _ cL (by rw[←e4];exact XZ w8 d5 1 _ rfl),hc _ _ _ cL (by rw[←e4];exact XZ w8 d5 2 _ rfl),hc _ _ _ cL (by rw[←e5];exact RO w8 d6 0 _ rfl),hc _ _ _ cL (by rw[←e5];exact RO w8 d6 1 _ rfl),hc _ _ _ cL (by rw[←e5];exact RO w8 d6 2 _ rfl),hc _ _ _ cL (by rw[←e6];exact hr7 w8 d7 0 _ rfl),hc _ _ _ cL (by rw[←e6];exact hr7 w8 d7 1 _ rfl),hc _ _ _ cL (by rw[←e6];exact hr7 w8 d7 2 _ rfl),hc _ _ _ cL (by rw[←e7];exact hr8 w8 d8 0 _ rfl),hc _ _ _ cL (by rw[←e7];exact hr8 w8 d8 1 _ rfl),hc _ _ _ cL (by rw[←e7];exact hr8 w8 d8 2 _ rfl)⟩
theorem Xn{k:Nat}(h:9<k)(a b c d e f g i j:aD):dF k [(1,a),(2,b),(3,c),(4,d),(5,e),(6,f),(7,g),(8,i),(9,j)]=none:=by
 simp only[dF];rw[if_neg cL,if_neg cL,if_neg cL,if_neg cL,if_neg cL,if_neg cL,if_neg cL,if_neg cL,if_neg cL]
theorem Eu(w:aj):aQ prog 59 #[] w fun e w'=>∃mb,e=.returned (.map (some mb))∧GC w' w.heap.size mb∧w.heap.size≤mb∧cF w w':=by
 have hmm:=@run_makeMap prog;obtain⟨w8,uX,hB8,NY,CF⟩:=I1 w;have VI:dL prog 5 oL id (w8.alloc (.map #[] 0)) (w.heap.size+1+1+1+1+1+1+1+1) ([]:List (Nat×aD)):=by rw[←NY];exact dL.made _ _ _ _ w8
 have K0:Kept (·=w.heap.size+1+1+1+1+1+1+1+1) w8 (w8.alloc (.map #[] 0)):=dm (cR (aa _ w8) _);have HC:=cE CF;have Fi:=cE (cD hB8 NY);have HK0:=cE K0;clear CF K0 hB8 NY;go_enter func59,ntmps59
 go_wp2_with (first
  |(rw[←uX];refine dy (P:=prog) (k:=5) (fk:=oL) (fv:=id) (VI.of_block (aB _ _ _ VI.lt)) iW eA underlying130 rfl (.tmp 17) (.const (.b 1)) (.tmp 21) rfl rfl 1 (.slice (some ⟨w.heap.size+1+1+1+1+1+1+1+1+1,0,none⟩) 3 3) rfl rfl (l:=.b 1) cO ?_;intro v1 RF g1;have Ww:=cE g1;have HY1:=cE RF.lt;have K1:=HK0.out.trans ((dm (S:=(·=w.heap.size+1+1+1+1+1+1+1+1)) (cR (aa _ (w8.alloc (.map #[] 0))) (.cells #[.func (.func 123) #[] #[],.func (.func 125) #[] #[],.nilFunc,.func (.func 127) #[] #[],.func (.func 129) #[] #[],.func (.func 131) #[] #[],.func (.func 133) #[] #[],.func (.func 135) #[] #[],.func (.func 137) #[] #[]] 137))).trans g1);have Wv:=cE K1;obtain⟨c0,c1,c2,c3,c4,c5,c6,c7,c8,c9,Vj,Vi,ML,Vh,Oo,Vg,Vf,Ve,Vd,Ru,Ka,MK,Rt,R8⟩:=HC.out v1 K1;clear g1 K1 VI)
  |(refine dy (P:=prog) (k:=5) (fk:=oL) (fv:=id) (RF.of_block (aB _ _ _ RF.lt)) iW eA underlying130 rfl (.tmp 17) (.const (.b 2)) (.tmp 23) rfl rfl 2 (.slice (some ⟨v1.heap.size,0,none⟩) 1 1) rfl rfl (l:=.b 2) cO ?_;intro v2 MZ g2;have Y1:=cE g2;have HY2:=cE MZ.lt;have K2:=Wv.out.trans ((dm (S:=(·=w.heap.size+1+1+1+1+1+1+1+1)) (cR (aa _ v1) (.cells #[.func (.func 123) #[] #[],.func (.func 125) #[] #[],.nilFunc] 137))).trans g2);have Wu:=cE K2;obtain⟨c0,c1,c2,c3,c4,c5,c6,c7,c8,c9,Vj,Vi,ML,Vh,Oo,Vg,Vf,Ve,Vd,Ru,Ka,MK,Rt,R8⟩:=HC.out v2 K2;clear g2 K2 RF)
  |(refine dy (P:=prog) (k:=5) (fk:=oL) (fv:=id) (MZ.of_block (aB _ _ _ MZ.lt)) iW eA underlying130 rfl (.tmp 17) (.const (.b 3)) (.tmp 26) rfl rfl 3 (.slice (some ⟨v2.heap.size,0,none⟩) 2 2) rfl rfl (l:=.b 3) cO ?_;intro v3 MY g3;have HG3:=cE g3;have HY3:=cE MY.lt;have K3:=Wu.out.trans ((dm (S:=(·=w.heap.size+1+1+1+1+1+1+1+1)) (cR (aa _ v2) (.cells #[.func (.func 123) #[] #[],.func (.func 125) #[] #[],.nilFunc,.func (.func 127) #[] #[],.func (.func 129) #[] #[],.func (.func 131) #[] #[]] 137))).trans g3);have uU:=cE K3;obtain⟨c0,c1,c2,c3,c4,c5,c6,c7,c8,c9,Vj,Vi,ML,Vh,Oo,Vg,Vf,Ve,Vd,Ru,Ka,MK,Rt,R8⟩:=HC.out v3 K3;clear g3 K3 MZ)
  |(refine dy (P:=prog) (k:=5) (fk:=oL) (fv:=id) (MY.of_block (aB _ _ _ MY.lt)) iW eA underlying130 rfl (.tmp 17) (.const (.b 4)) (.tmp 28) rfl rfl 4 (.slice (some ⟨v3.heap.size,0,none⟩) 1 1) rfl rfl (l:=.b 4) cO ?_;intro v4 HM4 g4;have HG4:=cE g4;have HY4:=cE HM4.lt;have K4:=uU.out.trans ((dm (S:=(·=w.heap.size+1+1+1+1+1+1+1+1)) (cR (aa _ v3) (.cells #[.func (.func 139) #[] #[],.func (.func 140) #[] #[],.func (.func 142) #[] #[]] 137))).trans g4);have HK4:=cE K4;obtain⟨c0,c1,c2,c3,c4,c5,c6,c7,c8,c9,Vj,Vi,ML,Vh,Oo,Vg,Vf,Ve,Vd,Ru,Ka,MK,Rt,R8⟩:=HC.out v4 K4;clear g4 K4 MY)
  |(refine dy (P:=prog) (k:=5) (fk:=oL) (fv:=id) (HM4.of_block (aB _ _ _ HM4.lt)) iW eA underlying130 rfl (.tmp 17) (.const (.b 5)) (.tmp 32) rfl rfl 5 (.slice (some ⟨v4.heap.size,0,none⟩) 3 3) rfl rfl (l:=.b 5) cO ?_;intro v5 RE g5;have HG5:=cE g5;have HY5:=cE RE.lt;have K5:=HK4.out.trans ((dm (S:=(·=w.heap.size+1+1+1+1+1+1+1+1)) (cR (aa _ v4) (.cells #[.func (.func 148) #[] #[],.func (.func 150) #[] #[],.func (.func 152) #[] #[],.func (.func 153) #[] #[],.func (.func 154) #[] #[],.nilFunc,.func (.func 156) #[] #[],.func (.func 158) #[] #[],.func (.func 160) #[] #[]] 137))).trans g5);have HK5:=cE K5;obtain⟨c0,c1,c2,c3,c4,c5,c6,c7,c8,c9,Vj,Vi,ML,Vh,Oo,Vg,Vf,Ve,Vd,Ru,Ka,MK,Rt,R8⟩:=HC.out v5 K5;clear g5 K5 HM4)
  |(refine dy (P:=prog) (k:=5) (fk:=oL) (fv:=id) (RE.of_block (aB _ _ _ RE.lt)) iW eA underlying130 rfl (.tmp 17) (.const (.b 6)) (.tmp 35) rfl rfl 6 (.slice (some ⟨v5.heap.size,0,none⟩) 2 2) rfl rfl (l:=.b 6) cO ?_;intro v6 YY g6;have VK:=cE g6;have HY6:=cE YY.lt;have K6:=HK5.out.trans ((dm (S:=(·=w.heap.size+1+1+1+1+1+1+1+1)) (cR (aa _ v5) (.cells #[.func (.func 148) #[] #[],.func (.func 150) #[] #[],.func (.func 152) #[] #[],.func (.func 153) #[] #[],.func (.func 154) #[] #[],.nilFunc] 137))).trans g6);have HK6:=cE K6;obtain⟨c0,c1,c2,c3,c4,c5,c6,c7,c8,c9,Vj,Vi,ML,Vh,Oo,Vg,Vf,Ve,Vd,Ru,Ka,MK,Rt,R8⟩:=HC.out v6 K6;clear g6 K6 RE)
  |(refine dy (P:=prog) (k:=5) (fk:=oL) (fv:=id) (YY.of_block (aB _ _ _ YY.lt)) iW eA underlying130 rfl (.tmp 17) (.const (.b 7)) (.tmp 37) rfl rfl 7 (.slice (some ⟨v6.heap.size,0,none⟩) 1 1) rfl rfl (l:=.b 7) cO ?_;intro v7 HM7 g7;have HG7:=cE g7;have HY7:=cE HM7.lt;have K7:=HK6.out.trans ((dm (S:=(·=w.heap.size+1+1+1+1+1+1+1+1)) (cR (aa _ v6) (.cells #[.func (.func 148) #[] #[],.func (.func 150) #[] #[],.func (.func 152) #[] #[]] 137))).trans g7);have Y0:=cE K7;obtain⟨c0,c1,c2,c3,c4,c5,c6,c7,c8,c9,Vj,Vi,ML,Vh,Oo,Vg,Vf,Ve,Vd,Ru,Ka,MK,Rt,R8⟩:=HC.out v7 K7;clear g7 K7 YY)
  |(refine dy (P:=prog) (k:=5) (fk:=oL) (fv:=id) (HM7.of_block (aB _ _ _ HM7.lt)) iW eA underlying130 rfl (.tmp 17) (.const (.b 8)) (.tmp 40) rfl rfl 8 (.slice (some ⟨v7.heap.size,0,none⟩) 2 2) rfl rfl (l:=.b 8) cO ?_;intro v8 HM8 g8;have HG8:=cE g8;have HY8:=cE HM8.lt;have K8:=Y0.out.trans ((dm (S:=(·=w.heap.size+1+1+1+1+1+1+1+1)) (cR (aa _ v7) (.cells #[.func (.func 143) #[] #[],.func (.func 145) #[] #[],.func (.func 147) #[] #[],.func (.func 148) #[] #[],.func (.func 150) #[] #[],.func (.func 152) #[] #[]] 137))).trans g8);have HK8:=cE K8;obtain⟨c0,c1,c2,c3,c4,c5,c6,c7,c8,c9,Vj,Vi,ML,Vh,Oo,Vg,Vf,Ve,Vd,Ru,Ka,MK,Rt,R8⟩:=HC.out v8 K8;clear g8 K8 HM7)
  |(refine dy (P:=prog) (k:=5) (fk:=oL) (fv:=id) (HM8.of_block (aB _ _ _ HM8.lt)) iW eA underlying130 rfl (.tmp 17) (.const (.b 9)) (.tmp 45) rfl rfl 9 (.slice (some ⟨v8.heap.size,0,none⟩) 4 4) rfl rfl (l:=.b 9) cO ?_;intro v9 HM9 g9;have HG9:=cE g9;have HY9:=cE HM9.lt;have K9:=HK8.out.trans ((dm (S:=(·=w.heap.size+1+1+1+1+1+1+1+1)) (cR (aa _ v8) (.cells #[.func (.func 143) #[] #[],.func (.func 145) #[] #[],.func (.func 147) #[] #[],.func (.func 148) #[] #[],.func (.func 150) #[] #[],.func (.func 152) #[] #[],.func (.func 153) #[] #[],.func (.func 154) #[] #[],.nilFunc,.func (.func 156) #[] #[],.func (.func 158) #[] #[],.func (.func 160) #[] #[]] 137))).trans g9);have HK9:=cE K9;clear g9 K9 HM8;have HME:=cE HM9;clear HM9)
  |fail)
 go_ret
 clear hmm;have T9:=Kept.refl (·=w.heap.size+1+1+1+1+1+1+1+1) v9;have T8:=((dm (S:=(·=w.heap.size+1+1+1+1+1+1+1+1)) (cR (aa _ v8) (.cells #[.func (.func 143) #[] #[],.func (.func 145) #[] #[],.func (.func 147) #[] #[],.func (.func 148) #[] #[],.func (.func 150) #[] #[],.func (.func 152) #[] #[],.func (.func 153) #[] #[],.func (.func 154) #[] #[],.nilFunc,.func (.func 156) #[] #[],.func (.func 158) #[] #[],.func (.func 160) #[] #[]] 137))).trans HG9.out).trans T9;have T7:=((dm (S:=(·=w.heap.size+1+1+1+1+1+1+1+1)) (cR (aa _ v7) (.cells #[.func (.func 143) #[] #[],.func (.func 145) #[] #[],.func (.func 147) #[] #[],.func (.func 148) #[] #[],.func (.func 150) #[] #[],.func (.func 152) #[] #[]] 137))).trans HG8.out).trans T8;have T6:=((dm (S:=(·=w.heap.size+1+1+1+1+1+1+1+1)) (cR (aa _ v6) (.cells #[.func (.func 148) #[] #[],.func (.func 150) #[] #[],.func (.func 152) #[] #[]] 137))).trans HG7.out).trans T7;have T5:=((dm (S:=(·=w.heap.size+1+1+1+1+1+1+1+1)) (cR (aa _ v5) (.cells #[.func (.func 148) #[] #[],.func (.func 150) #[] #[],.func (.func 152) #[] #[],.func (.func 153) #[] #[],.func (.func 154) #[] #[],.nilFunc] 137))).trans VK.out).trans T6;have T4:=((dm (S:=(·=w.heap.size+1+1+1+1+1+1+1+1)) (cR (aa _ v4) (.cells #[.func (.func 148) #[] #[],.func (.func 150) #[] #[],.func (.func 152) #[] #[],.func (.func 153) #[] #[],.func (.func 154) #[] #[],.nilFunc,.func (.func 156) #[] #[],.func (.func 158) #[] #[],.func (.func 160) #[] #[]] 137))).trans HG5.out).trans T5;have T3:=((dm (S:=(·=w.heap.size+1+1+1+1+1+1+1+1)) (cR (aa _ v3) (.cells #[.func (.func 139) #[] #[],.func (.func 140) #[] #[],.func (.func 142) #[] #[]] 137))).trans HG4.out).trans T4;have T2:=((dm (S:=(·=w.heap.size+1+1+1+1+1+1+1+1)) (cR (aa _ v2) (.cells #[.func (.func 123) #[] #[],.func (.func 125) #[] #[],.nilFunc,.func (.func 127) #[] #[],.func (.func 129) #[] #[],.func (.func 131) #[] #[]] 137))).trans HG3.out).trans T3;have T1:=((dm (S:=(·=w.heap.size+1+1+1+1+1+1+1+1)) (cR (aa _ v1) (.cells #[.func (.func 123) #[] #[],.func (.func 125) #[] #[],.nilFunc] 137))).trans Y1.out).trans T2
 have NY:=Fi.out.2;have e9:(w8.alloc (.map #[] 0)).heap.size=w.heap.size+1+1+1+1+1+1+1+1+1:=by simp[NY]
 have r1:=((nT.new (w8.alloc (.map #[] 0)) w.heap.size (by have:=e9;omega) (fe 1)).kept Ww.out (fun e=>by have e:(w8.alloc (.map #[] 0)).heap.size=w.heap.size+1+1+1+1+1+1+1+1:=e;omega)).kept T1 (fun e=>by have e:(w8.alloc (.map #[] 0)).heap.size=w.heap.size+1+1+1+1+1+1+1+1:=e;omega);have r2:=((nT.new v1 w.heap.size (by have:=HY1.out;omega) (fe 2)).kept Y1.out (fun e=>by have e:v1.heap.size=w.heap.size+1+1+1+1+1+1+1+1:=e;have:=HY1.out;omega)).kept T2 (fun e=>by have e:v1.heap.size=w.heap.size+1+1+1+1+1+1+1+1:=e;have:=HY1.out;omega);have r3:=((nT.new v2 w.heap.size (by have:=HY2.out;omega) (fe 3)).kept HG3.out (fun e=>by have e:v2.heap.size=w.heap.size+1+1+1+1+1+1+1+1:=e;have:=HY2.out;omega)).kept T3 (fun e=>by have e:v2.heap.size=w.heap.size+1+1+1+1+1+1+1+1:=e;have:=HY2.out;omega);have r4:=((nT.new v3 w.heap.size (by have:=HY3.out;omega) (fe 4)).kept HG4.out (fun e=>by have e:v3.heap.size=w.heap.size+1+1+1+1+1+1+1+1:=e;have:=HY3.out;omega)).kept T4 (fun e=>by have e:v3.heap.size=w.heap.size+1+1+1+1+1+1+1+1:=e;have:=HY3.out;omega);have r5:=((nT.new v4 w.heap.size (by have:=HY4.out;omega) (fe 5)).kept HG5.out (fun e=>by have e:v4.heap.size=w.heap.size+1+1+1+1+1+1+1+1:=e;have:=HY4.out;omega)).kept T5 (fun e=>by have e:v4.heap.size=w.heap.size+1+1+1+1+1+1+1+1:=e;have:=HY4.out;omega);have r6:=((nT.new v5 w.heap.size (by have:=HY5.out;omega) (fe 6)).kept VK.out (fun e=>by have e:v5.heap.size=w.heap.size+1+1+1+1+1+1+1+1:=e;have:=HY5.out;omega)).kept T6 (fun e=>by have e:v5.heap.size=w.heap.size+1+1+1+1+1+1+1+1:=e;have:=HY5.out;omega);have r7:=((nT.new v6 w.heap.size (by have:=HY6.out;omega) (fe 7)).kept HG7.out (fun e=>by have e:v6.heap.size=w.heap.size+1+1+1+1+1+1+1+1:=e;have:=HY6.out;omega)).kept T7 (fun e=>by have e:v6.heap.size=w.heap.size+1+1+1+1+1+1+1+1:=e;have:=HY6.out;omega);have r8:=((nT.new v7 w.heap.size (by have:=HY7.out;omega) (fe 8)).kept HG8.out (fun e=>by have e:v7.heap.size=w.heap.size+1+1+1+1+1+1+1+1:=e;have:=HY7.out;omega)).kept T8 (fun e=>by have e:v7.heap.size=w.heap.size+1+1+1+1+1+1+1+1:=e;have:=HY7.out;omega)
 have r9:=((nT.new v8 w.heap.size (by have:=HY8.out;omega) (fe 9)).kept HG9.out (fun e=>by have e:v8.heap.size=w.heap.size+1+1+1+1+1+1+1+1:=e;have:=HY8.out;omega)).kept T9 (fun e=>by have e:v8.heap.size=w.heap.size+1+1+1+1+1+1+1+1:=e;have:=HY8.out;omega);rw[e9] at r1;have b8:=Fi.out.1;have hsz:=b8.size;refine⟨_,rfl,⟨_,HME.out,fun k=>⟨fun hk=>?_,fun hk=>?_⟩⟩,by omega,b8.trans ((HK9.out).below cL (fun k e=>by have e:k=w.heap.size+1+1+1+1+1+1+1+1:=e;omega))⟩
 ·unfold kindOk at hk
  simp at hk;obtain rfl|rfl|rfl|rfl|rfl|rfl|rfl|rfl|rfl:=(by omega:k=1∨k=2∨k=3∨k=4∨k=5∨k=6∨k=7∨k=8∨k=9)
  ·exact⟨_,rfl,r1⟩
  ·exact⟨_,rfl,r2⟩
  ·exact⟨_,rfl,r3⟩
  ·exact⟨_,rfl,r4⟩
  ·exact⟨_,rfl,r5⟩
  ·exact⟨_,rfl,r6⟩
  ·exact⟨_,rfl,r7⟩
  ·exact⟨_,rfl,r8⟩
  exact⟨_,rfl,r9⟩
 unfold kindOk at hk;have:k=0∨9<k:=by simp at hk;omega
 rcases this with rfl|h9
 ·rfl
 exact Xn h9 _ _ _ _ _ _ _ _ _
end
section
open Go.RowKit Go.Shelf Go.MapKept Go.ChangeMaps
attribute [local go_sem] jg jf
theorem Pt.Nc(p:Pt):p.CR=.nilFunc∨∃f,p.CR=.func (.func f) #[] #[]:=by cases p<;>first|exact .inl rfl|exact .inr ⟨_,rfl⟩
theorem Pt.Mg(p:Pt):∀args w,(callFunc p.Dh args).run prog w=.ok (.enter p.Dh args) w:=by
 cases p with
 |client=>exact au func123 cK rfl
 |owner=>exact au func127 cK rfl
 |op=>exact au func133 cK rfl
 |item=>exact au func139 cK rfl
 |site=>exact au func143 cK rfl
 |place=>exact au func148 cK rfl
 |epoch=>exact au func153 cK rfl
 |stamp=>exact au func156 cK rfl
theorem Pt.Mj(p:Pt):∀args w,(callFunc p.qO args).run prog w=.ok (.enter p.qO args) w:=by
 cases p with
 |client=>exact au func125 cK rfl
 |owner=>exact au func129 cK rfl
 |op=>exact au func135 cK rfl
 |item=>exact au func140 cK rfl
 |site=>exact au func145 cK rfl
 |place=>exact au func150 cK rfl
 |epoch=>exact au func154 cK rfl
 |stamp=>exact au func158 cK rfl
theorem ur(k:Nat):(fe k).length≤4:=by
 unfold fe;split<;>decide
def oJ(X:iS)(l:List Pt):cP:=l.flatMap (·.put X)
theorem yV{X:iS}{l:List Pt}{k:Nat}{p:Pt}(h:l[k]?=some p):oJ X (l.take (k+1))=oJ X (l.take k)++p.put X:=by
 unfold oJ;exact jm _ h
def aak(w:aj)(xb:Nat)(X:iS):Prop:=∀(p:Pt) (W:aj) (ao:Option aR) (nb c:Nat) (B:cP),cF w W→BytesIn W ao nb c B→(B++p.put X).length≤100000000→
 aQ prog p.Dh #[.slice ao nb c,.p xb] W (eU W (B++p.put X))
theorem Sy(w:aj)(xb:Nat)(X:iS)(hk:X.kind<256)(x0:w.cell? ⟨xb,0,none⟩=some (.b (X.kind:Int)))(v:aD){base:Nat}(hv:nT w base v (fe X.kind))(HP:aak w xb X)(hl:(mD X).length≤100000000):
  aQ prog 62 #[.p xb,v] w (eU w (mD X)):=by
 obtain⟨g,rfl,hg,hrow⟩:=hv;have HB:=cE (nQ w (ao:=none) (nb:=0) (c:=0) (B:=[]) ⟨rfl,JC _ _⟩ cN X.kind hk);have HR:=cE (cD hg.2 hrow);have HQ:=cE HP;have ht:mD X=dI 1 X.kind++oJ X (fe X.kind):=rfl;rw[ht] at hl⊢;have HL:=cE hl;have hxb:xb<w.heap.size:=World.block_lt_of_cell? _ _ x0;have J6:=ur X.kind;generalize fe X.kind=l at HR HL J6⊢;obtain⟨N,hN⟩:=cG l.length;have HN:=cE hN;rw[←hN] at J6⊢;clear hg hrow HP ht hl hN hk;go_enter func62,ntmps62
 go_wp2_with fail
 refine HB.out.mono ?_;rintro e w1 ⟨a1,n1,c1,rfl,h1⟩;have H1:Hid (iF w (dI 1 X.kind) a1 n1 c1 w1):=cE (h1.cast rfl);clear h1 x0;go_wp2
 go_loopw [5,15] (fun bv kv wr=>∃(k:Nat) (a:Option aR) (n c:Nat),k≤N∧kv=.i k∧bv=.slice a n c∧Hid (iF w (dI 1 X.kind++oJ X (l.take k)) a n c wr)) (fun _ kv _=>N - (intOf kv).toNat)
 case atStart=>exact⟨0,a1,n1,c1,by omega,rfl,rfl,cE (H1.out.cast (by simp[oJ]))⟩
 obtain⟨k,a,n,c,hk,rfl,rfl,HS⟩:=hrel;by_cases hlt:k<N
 ·obtain⟨p,hx⟩:∃p,l[k]?=some p:=⟨_,ag (by rw[←HN.out];exact hlt)⟩
  have hrw:=dA (HR.out.2 k p hx) HS.out.bl HR.out.1;have hlen:(dI 1 X.kind++oJ X (l.take k)++p.put X).length≤100000000:=by
   have h1:=HL.out;have h2:(oJ X (l.take (k+1))).length≤(oJ X l).length:=jM _ l (k+1);rw[yV hx] at h2;simp only[ah] at h1 h2⊢;omega
  unfold Pt.cells at hrw;have mX:=cE hrw;obtain⟨w2,eS,dz,hs2,hr2⟩:=dO wr [.func (.func p.Dh) #[] #[],.func (.func p.qO) #[] #[],p.CR] 137;have hsz:=HS.out.bl.size;have RI:=cE (HQ.out p w2 a n c _ (HS.out.bl.trans (dz.mono hsz)) (HS.out.pN.below dz) hlen);have y0:w2.cell? ⟨wr.heap.size,0,none⟩=some (.func (.func p.Dh) #[] #[]):=hr2 w2 (aa _ _) 0 _ rfl;have GD:=cE (cD dz eS);have eY:Hid (cH 137 3):=cE cK;have HXK:=cE hx;have GH:=cE HS.out.bl;clear hrw hlen eS dz hr2 hs2 hx;obtain⟨vm,Wc⟩:=cG p.CR;have Zs:vm=.nilFunc∨∃f,vm=.func (.func f) #[] #[]:=by rw[Wc];exact p.Nc
  rw[←Wc] at mX GD;clear Wc;have BO:=p.Mg;rcases Zs with rfl|⟨f,rfl⟩
  all_goals
   go_wp2_with (first
    |(refine aX rfl 137 (.tmp 17) rfl g (k*3) rfl [.func (.func p.Dh) #[] #[],.func (.func p.qO) #[] #[],_] _ mX.out underlying137 rfl eY.out ?_)
    |(rw[←GD.out.2]))
   refine RI.out.mono ?_;rintro e w3 ⟨a3,n3,c3,rfl,h1⟩;have H3:Hid (iF w (dI 1 X.kind++oJ X (l.take (k+1))) a3 n3 c3 w3):=cE (((h1.trans GD.out.1).trans GH.out).cast (by rw[yV HXK.out,af]));clear h1;go_wp2
   go_roundw
   case rel=>exact⟨k+1,a3,n3,c3,by omega,by go_num,rfl,H3⟩
   case measure=>simp[intOf];omega
 obtain rfl:N=k:=by omega
 have t1:decide ((N:Int)<(N:Int))=false:=by simp
 have t2:decide (N<N)=false:=by simp
 clear hlt hk;go_wp2
 go_ret
 exact⟨a,n,c,rfl,HS.out.cast (by rw[bG (by rw[←HN.out];exact aG _)])⟩
def gF(kind oh req:Nat)(os:Int)(on:Nat)(o:cV)(x:gK)(i:dS)(site dK:Int)(ep:Nat)(fa:Option aR)(fn fc:Nat):List aD:=
 [.b (kind:Int),.u (oh:Int),.u (req:Int),.i os,.u (on:Int),.b o.kind,.s o.path,.slice o.da o.dn o.dc,.i o.gS,.bool o.seq,.bool o.mM,.slice o.pa o.pn o.pc,
  .i x.ew,.v (x.seq:Int),.i x.dK,.v (x.ep:Int),.slice i.sa x.stamp.length i.sc,.slice i.ea x.dB.length i.ec,.u (x.cl:Int),.i site,.i dK,.v (ep:Int),.slice fa fn fc]
def fR.cells(v:fR)(o:cV)(i:dS)(fa:Option aR)(fc:Nat):List aD:=gF v.kind v.oh v.req v.os v.on o v.dY i v.site v.dK v.ep fa v.fr.length fc
structure yM(w:aj)(lo:Nat→Prop)(v:fR)(o:cV)(L:List cV)(i:dS)(E:List cZ)(fa:Option aR):Prop where
 leaf:eZ w lo o v.op
 pn:o.pn=L.length
 like:nU w lo L v.parts
 row:∀(k:Nat) q,L[k]?=some q→∃g,o.pa=some ⟨g,0,none⟩∧lo g∧g<w.heap.size∧w.rangeAt g (k*7) q.cells
 dY:eu w lo i E v.dY
 fr:dr w lo fa v.fr
theorem eu.Ev{w1 w2:aj}{lo:Nat→Prop}{r:dS}{L:List cZ}{x:gK}{S:Nat→Prop}(h:eu w1 lo r L x)(hk:Kept S w1 w2)(hS:∀b,lo b→b<w1.heap.size→¬S b):eu w2 lo r L x:=by
 refine⟨h.stamp.kept hk hS,⟨h.like.1,fun k q e h1 h2=>?_⟩,fun k q hq=>?_,h.new⟩
 ·obtain⟨g1,g2,g3⟩:=h.like.2 k q e h1 h2
  exact⟨g1,g2,g3.num,g3.len,(g3.data.kept hk (aG _) (fun b hb hlt _=>hS b hb hlt)).mono (fun _ h=>h) hk.size,g3.nil⟩
 obtain⟨b,off,e1,e2,e3⟩:=h.row k q hq;exact⟨b,off,e1,aJ e2 hk.size,fun j v hv=>(hk.cell (p:=⟨b,off+k*11+j,none⟩) e2 (hS b (h.new _ e1) e2)).trans (e3 j v hv)⟩
theorem yM.Ev{w w':aj}{lo S:Nat→Prop}{v:fR}{o:cV}{L:List cV}{i:dS}{E:List cZ}{fa:Option aR}(h:yM w lo v o L i E fa)(hk:Kept S w w')(hn:∀b,lo b→b<w.heap.size→¬S b):yM w' lo v o L i E fa:=
 ⟨h.leaf.dP hk hn,h.pn,h.like.dP hk hn,fun k q hq=>by
  obtain⟨g,h1,h2,h3,h4⟩:=h.row k q hq;exact⟨g,h1,h2,aJ h3 hk.size,fun j u hu=>(hk.cell (p:=⟨g,k*7+j,none⟩) h3 (hn g h2 h3)).trans (h4 j u hu)⟩,h.dY.Ev hk hn,h.fr.kept hk hn⟩
theorem yM.kept{w w':aj}{lo S:Nat→Prop}{v:fR}{o:cV}{L:List cV}{i:dS}{E:List cZ}{fa:Option aR}(h:yM w lo v o L i E fa)(hk:Kept S w w')(hn:∀b,lo b→¬S b):yM w' lo v o L i E fa:=h.Ev hk (fun b hb _=>hn b hb)
theorem yM.mono{w:aj}{lo lo':Nat→Prop}{v:fR}{o:cV}{L:List cV}{i:dS}{E:List cZ}{fa:Option aR}(h:yM w lo v o L i E fa)(hl:∀b,lo b→lo' b):yM w lo' v o L i E fa:=
 ⟨h.leaf.both (fun b hb _=>hl b hb),h.pn,h.like.both (fun b hb _=>hl b hb),fun k q hq=>by
  obtain⟨g,h1,h2,h3,h4⟩:=h.row k q hq;exact⟨g,h1,hl g h2,h3,h4⟩,h.dY.mono hl,h.fr.mono (fun b _ hb=>hl b hb)⟩
structure kT(w0 w:aj)(rb xb:Nat)(r:Rd)(v:fR):Prop where
 rd:eT w rb r
 lt:rb<xb
 lo0:w0.heap.size≤rb
 box:∃o L i E fa fc,w.heap[xb]?=some (.cells (v.cells o i fa fc).toArray 42 (0,0))∧yM w (fun b=>w0.heap.size≤b∧b≠rb∧b≠xb) v o L i E fa
 bl:cF w0 w
theorem kT.below{w0 w w':aj}{rb xb:Nat}{r:Rd}{v:fR}(h:kT w0 w rb xb r v)(hb:cF w w'):kT w0 w' rb xb r v:=by
 obtain⟨o,L,i,E,fa,fc,h1,h2⟩:=h.box;exact⟨h.rd.below hb,h.lt,h.lo0,⟨o,L,i,E,fa,fc,(hb.block xb (aN h1)).trans h1,h2.kept (S:=Aw) (dm hb) (fun _ _ e=>e)⟩,h.bl.trans (hb.mono h.bl.size)⟩
theorem pV{B:Nat}{t:TypeId}{fr:Nat×Nat}:∀(vs:List aD) (o:Nat) (w:aj) (cs:List aD),w.heap[B]?=some (.cells cs.toArray t fr)→o+vs.length≤cs.length→(w.setCells B o vs).heap[B]?=some (.cells (cs.take o++vs++cs.drop (o+vs.length)).toArray t fr)
 |[],o,w,cs,h,hl=>by
  simp only[aO,bA,Nat.add_zero,List.take_append_drop];exact h
 |v::r,o,w,cs,h,hl=>by
  have h1:(w.setCell ⟨B,o,none⟩ v).heap[B]?=some (.cells (cs.set o v).toArray t fr):=by
   simp[World.setCell,Array.getElem?_modify,h]
  have h2:=pV r (o+1) (w.setCell ⟨B,o,none⟩ v) (cs.set o v) h1 (by simp at hl⊢;omega);have ho:o<cs.length:=by simp at hl;omega
  have h3:(cs.set o v).take (o+1)=cs.take o++[v]:=by
   rw[bL,List.take_set_of_le (aG o)];simp[ho]
  have h4:(cs.set o v).drop (o+1+r.length)=cs.drop (o+(v::r).length):=by
   rw[List.drop_set_of_lt cL,aZ,show o+1+r.length=o+(r.length+1) by omega]
  rw[h3,h4,af (cs.take o)] at h2;exact h2
theorem kT.set{w0 w w1:aj}{rb xb:Nat}{r r':Rd}{v v':fR}{o:cV}{i:dS}{fa:Option aR}{fc:Nat}{o':cV}{L':List cV}{i':dS}{E':List cZ}{R6:Option aR}{UL:Nat}(h:kT w0 w rb xb r v)(hb:w.heap[xb]?=some (.cells (v.cells o i fa fc).toArray 42 (0,0)))(hr:eT w1 rb r')(hk:Kept (·=rb) w w1)(off:Nat)(cs:List aD)(ho:off+cs.length≤23)
  (hc:(v.cells o i fa fc).take off++cs++(v.cells o i fa fc).drop (off+cs.length)=v'.cells o' i' R6 UL) (hd:yM w1 (fun b=>w0.heap.size≤b∧b≠rb∧b≠xb) v' o' L' i' E' R6):kT w0 (w1.setCells xb off cs) rb xb r' v':=by
 have hlt:=h.lt;have K:Kept (·=xb) w1 (w1.setCells xb off cs):=ic w1 xb off cs;have de:w1.heap[xb]?=some (.cells (v.cells o i fa fc).toArray 42 (0,0)):=(hk.block xb (aN hb) (fun e=>by have e:xb=rb:=e;omega)).trans hb;have h2:=pV cs off w1 _ de (by simpa [fR.cells,gF] using ho);rw[hc] at h2;refine⟨hr.kept K (fun b hb e=>by have e:b=xb:=e;omega),h.lt,h.lo0,⟨o',L',i',E',R6,UL,h2,hd.kept K (fun b hb=>hb.2.2)⟩,?_⟩;have h3:cF w0 w1:=h.bl.trans (hk.below h.bl.size (fun k e=>by have:=h.lo0;have e:k=rb:=e;omega));exact h3.trans (K.below h3.size (fun k e=>by have:=h.lo0;have e:k=xb:=e;omega))
theorem rM{w0 w:aj}{rb xb:Nat}{r r':Rd}{v v':fR}{e:bH}{w':aj}{off:Nat}{cs:List aD}(h:kT w0 w rb xb r v)(hg:Ai w rb xb off cs r' w')(ho:off+cs.length≤23)
  (hc:∀o i fa fc,(v.cells o i fa fc).take off++cs++(v.cells o i fa fc).drop (off+cs.length)=v'.cells o i fa fc) (h1:v'.op=v.op) (h2:v'.parts=v.parts) (h3:v'.dY=v.dY) (h4:v'.fr=v.fr):kT w0 w' rb xb r' v':=by
 obtain⟨o,L,i,E,fa,fc,hb,hd⟩:=h.box;obtain⟨w1,hr,hk,rfl⟩:=hg;have wK:=hd.kept hk (fun b hb=>hb.2.1);exact h.set hb hr hk off cs ho (hc o i fa fc) ⟨by rw[h1];exact wK.leaf,wK.pn,by rw[h2];exact wK.like,wK.row,by rw[h3];exact wK.dY,by rw[h4];exact wK.fr⟩
section
variable{w0 w:World}{rb xb:Nat}{r r':Rd}{v:fR}{w':World}
theorem KD(h:kT w0 w rb xb r v)(a b:Nat)(hg:Ai w rb xb 1 [.u (a:Nat),.u (b:Nat)] r' w'):kT w0 w' rb xb r' {v with oh:=a,req:=b}:=rM (e:=.outgrown) h hg cN (fun _ _ _ _=>rfl) rfl rfl rfl rfl
theorem Ph(h:kT w0 w rb xb r v)(a b:Nat)(hg:Ai w rb xb 3 [.i (a:Nat),.u (b:Nat)] r' w'):kT w0 w' rb xb r' {v with os:=(a:Nat),on:=b}:=rM (e:=.outgrown) h hg cN (fun _ _ _ _=>rfl) rfl rfl rfl rfl
theorem SH(h:kT w0 w rb xb r v)(a:Nat)(hg:Ai w rb xb 19 [.i (a:Nat)] r' w'):kT w0 w' rb xb r' {v with site:=(a:Nat)}:=rM (e:=.outgrown) h hg cN (fun _ _ _ _=>rfl) rfl rfl rfl rfl
theorem Pg(h:kT w0 w rb xb r v)(a:Int)(hg:Ai w rb xb 20 [.i a] r' w'):kT w0 w' rb xb r' {v with dK:=a}:=rM (e:=.outgrown) h hg cN (fun _ _ _ _=>rfl) rfl rfl rfl rfl
theorem Pj(h:kT w0 w rb xb r v)(a:Nat)(hg:Ai w rb xb 21 [.v (a:Nat)] r' w'):kT w0 w' rb xb r' {v with ep:=a}:=rM (e:=.outgrown) h hg cN (fun _ _ _ _=>rfl) rfl rfl rfl rfl
theorem Pf(h:kT w0 w rb xb r v){w1:aj}{a:Option aR}{c:Nat}{V:List Nat}(g1:dr w1 (fQ w.heap.size) a V)(g2:eT w1 rb r')(g3:Kept (·=rb) w w1):kT w0 (w1.setCells xb 22 [.slice a V.length c]) rb xb r' {v with fr:=V}:=by
 have hrb:=h.rd.lt;have hlt:=h.lt;have h0:=h.lo0;obtain⟨o,L,i,E,fa,fc,hb,hd⟩:=h.box;have hxl:=aN hb;have wK:=hd.kept g3 (fun b hb=>hb.2.1);exact h.set hb g2 g3 22 _ cN (o':=o) (i':=i) (R6:=a) (UL:=c) rfl ⟨wK.leaf,wK.pn,wK.like,wK.row,wK.dY,g1.mono (fun b _ hb=>by have hb:w.heap.size≤b:=hb;exact⟨by omega,by omega,by omega⟩)⟩
theorem SI(h:kT w0 w rb xb r v){w1:aj}{q:dS}{E':List cZ}{x:gK}(g1:eu w1 (fQ w.heap.size) q E' x)(g2:eT w1 rb r')(g3:Kept (·=rb) w w1):kT w0 (w1.setCells xb 12 (cT x q)) rb xb r' {v with dY:=x}:=by
 have hrb:=h.rd.lt;have hlt:=h.lt;have h0:=h.lo0;obtain⟨o,L,i,E,fa,fc,hb,hd⟩:=h.box;have hxl:=aN hb;have wK:=hd.kept g3 (fun b hb=>hb.2.1);exact h.set hb g2 g3 12 _ (by simp[cT]) (o':=o) (i':=q) (R6:=fa) (UL:=fc) rfl ⟨wK.leaf,wK.pn,wK.like,wK.row,g1.mono (fun b hb=>by have hb:w.heap.size≤b:=hb;exact⟨by omega,by omega,by omega⟩),wK.fr⟩
theorem aaQ(h:kT w0 w rb xb r v){w1:aj}{q:cV}{L':List cV}{o:eC}{P:List eC}(g1:eZ w1 (fQ w.heap.size) q o)(g2:q.pn=L'.length)(g3:nU w1 (fQ w.heap.size) L' P)(g4:∀(k:Nat) x,L'[k]?=some x→∃g,q.pa=some ⟨g,0,none⟩∧w.heap.size≤g∧g<w1.heap.size∧w1.rangeAt g (k*7) x.cells)(g6:eT w1 rb r')(g7:Kept (·=rb) w w1):kT w0 (w1.setCells xb 5 q.cells) rb xb r' {v with op:=o,parts:=P}:=by
 have hrb:=h.rd.lt;have hlt:=h.lt;have h0:=h.lo0;obtain⟨o0,L,i,E,fa,fc,hb,hd⟩:=h.box;have hxl:=aN hb;have wK:=hd.kept g7 (fun b hb=>hb.2.1);have hm:∀b,fQ w.heap.size b→w0.heap.size≤b∧b≠rb∧b≠xb:=fun b hb=>by have hb:w.heap.size≤b:=hb;exact⟨by omega,by omega,by omega⟩
 exact h.set hb g6 g7 5 _ (by simp[cV.cells]) (o':=q) (i':=i) (R6:=fa) (UL:=fc) rfl ⟨g1.both (fun b hb _=>hm b hb),g2,g3.both (fun b hb _=>hm b hb),fun k x hx=>by
  obtain⟨g,a1,a2,a3,a4⟩:=g4 k x hx;exact⟨g,a1,hm g a2,a3,a4⟩,wK.dY,wK.fr⟩
end
theorem S8{q q':cV}(hq:q.val=q'.val):q=q':=by
 obtain⟨a1,a2,a3,a4,a5,a6,a7,a8,a9,a10,a11⟩:=q;obtain⟨b1,b2,b3,b4,b5,b6,b7,b8,b9,b10,b11⟩:=q';simp[cV.val,cV.cells] at hq;obtain⟨e1,e2,⟨e3,e4,e5⟩,e6,e7,e8,e9,sO,qB⟩:=hq;have e2:a2=b2:=by
  have:=congrArg (fun x:ByteArray=>x.data.toList) e2;simpa [bs] using this
 subst e1 e2 e3 e4 e5 e6 e7 e8 e9 sO qB;rfl
theorem wu{w w1:aj}{rb xb:Nat}(hk:Kept (·=rb) w w1)(o:Nat)(cs:List aD):Kept (fun b=>b=rb∨b=xb) w (w1.setCells xb o cs):=
 Kept.setCells (S:=fun b=>b=rb∨b=xb) (p:=xb) (.inr rfl) cs o ⟨hk.os,hk.tape,hk.output,hk.size,fun k h1 h2=>hk.block k h1 (fun e=>h2 (.inl e))⟩
theorem pP{w w':aj}{rb xb o:Nat}{cs:List aD}{r:Rd}(h:Ai w rb xb o cs r w'):Kept (fun b=>b=rb∨b=xb) w w':=by
 obtain⟨w1,_,hk,rfl⟩:=h;exact wu hk o cs
theorem Uy(p:Pt){w0 w:aj}{rb xb:Nat}{r:Rd}{v:fR}(h:kT w0 w rb xb r v)(hl:r.b.length≤1000000000):
  aQ prog p.qO #[.p rb,.p xb] w fun e w'=>e=.returned (.tuple #[])∧kT w0 w' rb xb (p.rd r) (p.get r v)∧Kept (fun b=>b=rb∨b=xb) w w':=by
 obtain⟨o,L,i,E,fa,fc,hb,_⟩:=h.box;have hsz:(v.cells o i fa fc).toArray.size=23:=by simp[fR.cells,gF]
 cases p with
 |client=>
  simp only[Pt.qO,Pt.rd,Pt.get];exact(Ma w rb xb r h.rd h.lt _ _ hb hsz).mono fun e w' ⟨he,hg⟩=>⟨he,KD h _ _ hg,pP hg⟩
 |owner=>
  simp only[Pt.qO,Pt.rd,Pt.get];exact(QZ w rb xb r h.rd h.lt _ _ hb hsz).mono fun e w' ⟨he,hg⟩=>⟨he,Ph h _ _ hg,pP hg⟩
 |site=>
  simp only[Pt.qO,Pt.rd,Pt.get];exact(Ux w rb xb r h.rd h.lt _ _ hb hsz).mono fun e w' ⟨he,hg⟩=>⟨he,SH h _ hg,pP hg⟩
 |place=>
  simp only[Pt.qO,Pt.rd,Pt.get];exact(QY w rb xb r h.rd h.lt _ _ hb hsz).mono fun e w' ⟨he,hg⟩=>⟨he,Pg h _ hg,pP hg⟩
 |epoch=>
  simp only[Pt.qO,Pt.rd,Pt.get];exact(Q2 w rb xb r h.rd h.lt _ _ hb hsz).mono fun e w' ⟨he,hg⟩=>⟨he,Pj h _ hg,pP hg⟩
 |stamp=>
  simp only[Pt.qO,Pt.rd,Pt.get];refine(L8 w rb xb r h.rd h.lt _ _ hb hsz).mono ?_;rintro e w' ⟨he,a,c,w1,g1,g2,g3,rfl⟩;exact⟨he,Pf h g1 g2 g3,wu g3 _ _⟩
 |item=>
  simp only[Pt.qO,Pt.rd,Pt.get];refine(Q1 w rb xb r h.rd h.lt _ _ hb hsz hl).mono ?_;rintro e w' ⟨he,q,E',w1,g1,g2,g3,rfl⟩;exact⟨he,SI h g1 g2 g3,wu g3 _ _⟩
 |op=>
 simp only[Pt.qO,Pt.rd,Pt.get];refine(Yn w rb xb r h.rd h.lt _ _ hb hsz hl).mono ?_;rintro e w' ⟨he,q,w1,⟨q',L',hq,g1,g2,g3,g4,g5,g6,g7⟩,rfl⟩;obtain rfl:q=q':=S8 (by injection hq);exact⟨he,aaQ h g1 g2 g3 g4 g6 g7,wu g7 _ _⟩
attribute [local go_sem] jg jf
theorem vP{fn:Func}{p u v:Tmp}{ty:TypeId}(h:fn.results=#[.cell p ty,.tmp u,.tmp v])(tmps:Array aD)(P:bK)(w:aj):
  (results fn tmps).run P w=
   ((asAddr (tmps.getD p undef)).run P w).andThen fun a w₁=>((loadVar ty a).run P w₁).andThen fun x w₂=>.ok (.tuple #[x,tmps.getD u undef,tmps.getD v undef]) w₂:=by
 simp only[results,h];simp[Sem.run_bind,Result.andThen]
theorem pE{P:bK}{fn:Func}{p u v:Tmp}{ty:TypeId}(h:fn.results=#[.cell p ty,.tmp u,.tmp v])(tmps:Array aD)(w:aj)(b o:Nat)(cs:List aD)(d:TypeDesc)
  (hp:tmps.getD p undef=.pointer (some ⟨b,o,none⟩)) (hc:w.rangeAt b o cs) (hu:P.underlying ty=some d) (hd:d.isRow=true) (hi:(P.info? ty).map (·.size)=some cs.length):
  (results fn tmps).run P w=.ok (.tuple #[.agg cs.toArray,tmps.getD u undef,tmps.getD v undef]) w:=by
 rw[vP h,hp];simp[asAddr,run_loadVar_mid w b o ty cs d hc hu hd hi,Result.andThen]
theorem qT{w w':aj}{B o n:Nat}(h:w.there B o n)(hb:cF w w')(hB:B<w.heap.size):w'.there B o n:=fun j hj=>by
 obtain⟨h1,h2⟩:=h j hj;exact⟨by rw[hb.cell (p:=⟨B,o+j,none⟩) hB];exact h1,((dm (S:=fun _=>False) hb).frozen (p:=⟨B,o+j,none⟩) hB (fun e=>e)).trans h2⟩
structure alA(w:aj)(base:Nat)(v:aD)(l:List Pt):Prop where
 ex:∃ga n,v=.slice ga n n∧n=l.length∧∀(k:Nat) p,l[k]?=some p→∃g,ga=some ⟨g,0,none⟩∧base≤g∧g<w.heap.size∧w.rangeAt g (k*3) p.cells
theorem ajw{w:aj}{base k:Nat}{v:aD}(h1:kindOk k=true→nT w base v (fe k))(h2:kindOk k=false→v=.n):alA w base v (fe k):=by
 cases hk:kindOk k with
 |true=>
  obtain⟨g,e,hg,hr⟩:=h1 hk;exact⟨_,_,e,rfl,fun j p hp=>⟨g,rfl,hg.1,hg.2,hr j p hp⟩⟩
 |false=>exact⟨none,0,h2 hk,by rw[DW hk];rfl,fun j p hp=>by rw[DW hk] at hp;simp at hp⟩
theorem Ku{l:List Pt}{k:Nat}{p:Pt}(h:l[k]?=some p)(s:Rd×fR):(l.take (k+1)).foldl ja s=ja ((l.take k).foldl ja s) p:=by
 rw[bL,h,List.foldl_append];rfl
theorem WK(s:Rd×fR)(p:Pt):(ja s p).1.b.length≤s.1.b.length:=by
 show(p.rd s.1).b.length≤_;cases p with
 |client=>exact aq (Rd.nu _) (Rd.nu _)
 |owner=>exact Rd.Nn _
 |op=>exact aq (Rd.Lm _ _) (aq (Rd.lG _ _) (Rd.FU _))
 |item=>
  simp only[Pt.rd,Rd.item];exact aq (Rd.nu _) (aq (Rd.Gq _ _) (aq (Rd.lG _ _) (aq (Rd.AJ _) (aq (Rd.gP _ _) (aq (Rd.KV _ _) (aq (Rd.gP _ _) (Rd.lZ _ _)))))))
 |site=>exact Rd.lZ _ _
 |place=>exact Rd.KV _ _
 |epoch=>exact Rd.gP _ _
 |stamp=>exact Rd.AJ _
theorem Yq(l:List Pt):∀s:Rd×fR,(l.foldl ja s).1.b.length≤s.1.b.length:=by
 induction l with
 |nil=>intro s;exact aG _
 |cons p l ih=>intro s;rw[aV];exact aq (ih _) (WK s p)
theorem Ki(k:Nat):(fR.zero k).cells ⟨0,[],none,0,0,0,false,false,none,0,0⟩ ⟨none,0,none,0⟩ none 0=[.b (k:Int),.U,.U,.I,.U,.B,.z,.n,.I,.F,.F,.n,.I,.V,.I,.V,.n,.n,.U,.I,.I,.V,.n]:=rfl
theorem OT(w:aj)(lo:Nat→Prop)(k:Nat):yM w lo (fR.zero k) ⟨0,[],none,0,0,0,false,false,none,0,0⟩ [] ⟨none,0,none,0⟩ [] none:=
 ⟨⟨rfl,rfl,rfl,rfl,rfl,rfl,fun j x h=>by simp[fR.zero,WA] at h,fun _=>⟨rfl,rfl⟩⟩,rfl,⟨rfl,fun k q x h=>by simp at h⟩,fun k q h=>by simp at h,⟨fun k v h=>by simp[fR.zero,ko] at h,⟨rfl,fun k r e h=>by simp at h⟩,fun k r h=>by simp at h,fun ad e=>by cases e⟩,fun k v h=>by simp[fR.zero] at h⟩
def YM(w:aj)(D:cP)(e:bH)(w':aj):Prop:=∃o i fa fc L E u,e=.returned (.tuple #[.agg ((ey D).cells o i fa fc).toArray,u,.bool (mh D)])∧yM w' (fQ w.heap.size) (ey D) o L i E fa∧cF w w'
theorem Ht(w:aj)(ao:Option aR)(c:Nat)(lo:Nat→Prop)(D:cP)(hD:dN w lo ao c D)(hl:D.length≤1000000000):
  aQ prog 63 #[.slice ao D.length c] w (YM w D):=by
 obtain⟨w0,hw0,hb0,hs0,Jb⟩:=dO w [.B,.U,.U,.I,.U,.B,.z,.n,.I,.F,.F,.n,.I,.V,.I,.V,.n,.n,.U,.I,.I,.V,.n] 42;have HN:=cE (PY w0 ao c lo D (hD.below hb0) hl);have VC:=cE (cD hw0 (cD hb0 (cD hs0 Jb)));clear hw0 hb0 hs0 Jb;obtain⟨N,hN⟩:=cG D.length;rw[←hN] at HN hl⊢;have HDL:=cE hN;clear hD hN;go_enter func63,ntmps63
 go_wp2_with fail
 rw[←VC.out.1];refine HN.out.mono ?_;rintro e w1 ⟨rb,rfl,hrb,hR,de⟩;have H1:=cE (cD hrb (cD hR de));clear hrb hR de;go_wp2_with fail
 refine(Fz w1 rb ⟨D,false⟩ H1.out.2.1).mono ?_;rintro e w2 ⟨rfl,RX,hk2⟩;obtain⟨k,hk⟩:=cG ((⟨D,false⟩:Rd).num 1);obtain⟨r1,kH⟩:=cG ((⟨D,false⟩:Rd).take 1);rw[←kH] at RX;rw[←hk];have wH:k<256:=by rw[hk];exact Rd.Tj _
 have HK:=cE (cD hk kH);have H2:=cE (cD RX hk2);clear hk kH RX hk2;obtain⟨wz,LH,hbz,hsz,TX⟩:=dO w2 [.B,.U,.U,.I,.U,.B,.z,.n,.I,.F,.F,.n,.I,.V,.I,.V,.n,.n,.U,.I,.I,.V,.n] 42;have hbk:wz.heap[w2.heap.size]?=some (.cells #[.B,.U,.U,.I,.U,.B,.z,.n,.I,.F,.F,.n,.I,.V,.I,.V,.n,.n,.U,.I,.I,.V,.n] 42 (0,0)):=by rw[LH];exact aT w2 _
 have HT:Hid (wz.there w2.heap.size 0 23):=cE (dR hbk 0 23 cN);have eY:Hid (cH 42 23):=cE cK;have gu:Hid ((#[.b (k:Int),.U,.U,.I,.U,.B,.z,.n,.I,.F,.F,.n,.I,.V,.I,.V,.n,.n,.U,.I,.I,.V,.n]:Array aD).all (·.oneCell')=true):=cE (by simp[aW]);have Sa:=cE (cD LH (cD hbz hbk));clear LH hbz hsz TX hbk;go_wp2_with (first|(rw[←Sa.out.1];refine aC rfl 42 (.tmp 6) (.tmp 15) rfl w2.heap.size 0 #[.b (k:Int),.U,.U,.I,.U,.B,.z,.n,.I,.F,.F,.n,.I,.V,.I,.V,.n,.n,.U,.I,.I,.V,.n] rfl rfl HT.out eY.out gu.out ?_)|fail)
 have hX:kT w0 (wz.setCells w2.heap.size 0 [.b (k:Int),.U,.U,.I,.U,.B,.z,.n,.I,.F,.F,.n,.I,.V,.I,.V,.n,.n,.U,.I,.I,.V,.n]) rb w2.heap.size r1 (fR.zero k):=by
  obtain⟨_,hbz,hbk⟩:=Sa.out;obtain⟨RX,hk2⟩:=H2.out;obtain⟨hrb,hR,de⟩:=H1.out;have hrl:=hR.lt;have aj5:=hk2.size;have Ks:=ic wz w2.heap.size 0 [.b (k:Int),.U,.U,.I,.U,.B,.z,.n,.I,.F,.F,.n,.I,.V,.I,.V,.n,.n,.U,.I,.I,.V,.n];have gM:cF w0 wz:=(de.trans (hk2.below de.size (fun b e=>by have e:b=rb:=e;omega))).trans (hbz.mono (by have:=de.size;omega));refine⟨(RX.below hbz).kept Ks (fun b hb e=>by have e:b=w2.heap.size:=e;omega),by omega,by omega,⟨⟨0,[],none,0,0,0,false,false,none,0,0⟩,[],⟨none,0,none,0⟩,[],none,0,?_,OT _ _ _⟩,gM.trans (Ks.below gM.size (fun b e=>by have e:b=w2.heap.size:=e;have:=de.size;omega))⟩;rw[Ki];exact fG hbk rfl
 have Yk:Kept (fun _=>False) w0 w0:=Kept.refl _ _;generalize kz:wz.setCells w2.heap.size 0 [.b (k:Int),.U,.U,.I,.U,.B,.z,.n,.I,.F,.F,.n,.I,.V,.I,.V,.n,.n,.U,.I,.I,.V,.n]=w3 at hX⊢;obtain⟨xb,hxb⟩:=cG w2.heap.size;rw[←hxb] at hX⊢;have y0:∀w',cF w3 w'→w'.cell? ⟨xb,0,none⟩=some (.b (k:Int)):=fun w' h=>by
  obtain⟨o,L,i,E,fa,fc,h1,_⟩:=(hX.below h).box;rw[cell_of_row _ _ 0 _ 42 (0,0) h1];rfl
 have HX:=cE hX;clear hX kz Yk hxb;refine rB fun wd hS=>?_
 refine tI 1 rfl hS ?_;refine tJ 2 rfl hS y0 ?_;simp only[cQ];refine cI 0 rfl ?_;refine(Eu _).mono ?_;rintro e w4 ⟨mb,rfl,hK,hmb,hb4⟩;have b4:cF w3 w4:=hS.trans (hb4.mono hS.size);refine⟨b4,?_⟩;simp only[cQ];obtain⟨v,sZ,qx,EB⟩:=hK.look k wH;refine O0 (S':=fun w'=>cF w4 w') (fun w' h=>b4.trans (h.mono b4.size)) _ _ _ _ ?_;have eM:=aa w4.heap.size w4;refine tJ 3 rfl eM sZ ?_;refine tI 4 rfl eM ?_;refine tI 5 rfl eM ?_;refine tI 6 rfl eM ?_;simp only[cQ];refine tI 7 rfl eM ?_;refine tI 8 rfl eM ?_;simp only[cQ];refine bg cK ?_ _;obtain⟨ga,n,rfl,hn,hrow⟩:=(ajw qx EB).ex;have hn4:n≤4:=by rw[hn];exact ur k
 have hro:mh D=(kindOk k&&decide (EW ((fe k).foldl ja (r1,fR.zero k)).1=0)):=by
  unfold mh DQ;rw[←HK.out.1,←HK.out.2]
 have hrv:ey D=((fe k).foldl ja (r1,fR.zero k)).2:=by
  unfold ey DQ;rw[←HK.out.1,←HK.out.2]
 have hrl:r1.b.length≤1000000000:=by
  rw[HK.out.2];refine aq (Rd.gP _ 1) ?_;show D.length≤_;rw[←HDL.out];exact hl
 have hxl:xb<w3.heap.size:=by
  obtain⟨o,L,i,E,fa,fc,h1,_⟩:=HX.out.box;exact aN h1
 have Dr:=cE (cD hrow (cD (aJ hxl hS.size) HX.out.lt));have HX4:=cE (HX.out.below b4);have HR:=cE (cD hro (cD hrv hrl));have GI:=cE (cD HX.out.bl (HX.out.bl.trans (b4.mono HX.out.bl.size)));clear hrow hro hrv hrl hxl eM sZ qx EB hK hmb hb4 b4 hS y0 wH;generalize fe k=l at Dr HR hn;have HNL:=cE hn;clear hn;go_wp2
 go_loopw [25] (fun kv wr=>∃j:Nat,j≤n∧kv=.i j∧Hid (kT w0 wr rb xb ((l.take j).foldl ja (r1,fR.zero k)).1 ((l.take j).foldl ja (r1,fR.zero k)).2∧Kept (fun b=>b=rb∨b=xb) w4 wr)) (fun kv _=>n - (intOf kv).toNat)
 case atStart=>exact⟨0,by omega,rfl,cE ⟨HX4.out,Kept.refl _ _⟩⟩
 obtain⟨j,hj,rfl,HS⟩:=hrel;by_cases hlt:j<n
 ·obtain⟨p,hx⟩:∃p,l[j]?=some p:=⟨_,ag (by rw[←HNL.out];exact hlt)⟩
  obtain⟨g,rfl,RT,uD,hg2⟩:=Dr.out.1 j p hx;have hrw:wr.rangeAt g (j*3) p.cells:=fun i u hu=>(HS.out.2.cell (p:=⟨g,j*3+i,none⟩) uD (fun e=>by have:=Dr.out.2;rcases e with e|e<;>(have e:g=_:=e;omega))).trans (hg2 i u hu)
  unfold Pt.cells at hrw;have mX:=cE hrw;obtain⟨w5,nM,jE,hs5,XZ⟩:=dO wr [.func (.func p.Dh) #[] #[],.func (.func p.qO) #[] #[],p.CR] 137;have y1:w5.cell? ⟨wr.heap.size,1,none⟩=some (.func (.func p.qO) #[] #[]):=XZ w5 (aa _ _) 1 _ rfl;have hfl:(((l.take j).foldl ja (r1,fR.zero k)).1).b.length≤1000000000:=aq (Yq _ _) HR.out.2.2;have RI:=cE (Uy p (HS.out.1.below jE) hfl);have HX5:=cE (cD jE nM);have HSP:Hid (cH 137 3):=cE cK;have HXK:=cE hx;have BO:=p.Mj;obtain⟨vm,Wc⟩:=cG p.CR;have Zs:vm=.nilFunc∨∃f,vm=.func (.func f) #[] #[]:=by rw[Wc];exact p.Nc
  rw[←Wc] at mX HX5;clear Wc RT uD hg2 hrw nM jE hs5 XZ hfl hx;rcases Zs with rfl|⟨f,rfl⟩
  all_goals
   go_wp2_with (first
    |(refine aX rfl 137 (.tmp 27) rfl g (j*3) rfl [.func (.func p.Dh) #[] #[],.func (.func p.qO) #[] #[],_] _ mX.out underlying137 rfl HSP.out ?_)
    |(rw[←HX5.out.2]))
   refine RI.out.mono ?_;rintro e w6 ⟨rfl,h1,h2⟩;have H6:=cE (cD (show kT w0 w6 rb xb ((l.take (j+1)).foldl ja (r1,fR.zero k)).1 ((l.take (j+1)).foldl ja (r1,fR.zero k)).2 by rw[Ku HXK.out];exact h1) ((HS.out.2.trans (dm HX5.out.1)).trans h2));clear h1 h2;go_wp2
   go_roundw
   case rel=>exact⟨j+1,by omega,by go_num,H6⟩
   case measure=>simp[intOf];omega
 obtain rfl:n=j:=by omega
 have t1:decide ((n:Int)<(n:Int))=false:=by simp
 have t2:decide (n<n)=false:=by simp
 have Ac:l.take n=l:=bG (by rw[←HNL.out];exact aG _);rw[Ac] at HS;obtain⟨hro,hrv,_⟩:=HR.out;obtain⟨rE,hrE⟩:=cG ((l.foldl ja (r1,fR.zero k)).1);obtain⟨xv,hxv⟩:=cG (ey D);rw[←hrv,←hrE,←hxv] at HS;rw[←hrE] at hro;have Wr:=cE (cD hro hxv);clear hlt hj Ac hrv hro hrE hxv HR HX4 Dr;obtain⟨o,L,i,E,fa,fc,nN,hdx⟩:=HS.out.1.box;have hw0:w.heap.size<rb:=by have:=VC.out.2.2.1;have:=H1.out.1;omega
 have XQ:=HS.out.1.lt;have Je:=HS.out.1.bl;have hsw:w.heap.size<w0.heap.size:=by have:=VC.out.2.2.1;omega
 have hT0:wr.there w.heap.size 0 23:=by
  have hb0:w0.heap[w.heap.size]?=some (.cells #[.B,.U,.U,.I,.U,.B,.z,.n,.I,.F,.F,.n,.I,.V,.I,.V,.n,.n,.U,.I,.I,.V,.n] 42 (0,0)):=by rw[VC.out.1];exact aT w _
  exact dR ((Je.block _ hsw).trans hb0) 0 23 cN
 have HT0:Hid (∀w',cF wr w'→w'.there w.heap.size 0 23):=cE (fun w' h=>qT hT0 h (by have:=Je.size;omega));have HD2:=cE (cD nN (cD hdx (cD hw0 (cD XQ (cD Je hsw)))));have BR:(xv.cells o i fa fc).length=23:=by simp[fR.cells,gF]
 have hone:((xv.cells o i fa fc).toArray:Array aD).all (·.oneCell')=true:=by simp[fR.cells,gF,aW]
 have abE:∀w',Kept (·=w.heap.size) wr w'→w'.rangeAt xb 0 (xv.cells o i fa fc):=fun w' hk=>dD ((hk.block xb (aN nN) (fun e=>by have e:xb=w.heap.size:=e;omega)).trans nN)
 have OJ:=cE HS.out.1.rd;generalize hcs:xv.cells o i fa fc=cs at BR hone abE HD2;have HCS:=cE hcs;have HRN:=cE abE;have JW:=cE BR;have ahm:=cE hone;clear hw0 XQ Je hsw hT0 BR hone abE nN hdx hcs HS;cases Wj:kindOk k with
 |true=>
  rw[Wj] at Wr;have HE:Hid (cH 42 cs.length):=cE (by rw[JW.out];exact cJ);have HE2:Hid (cH 42 cs.toArray.size):=cE (by rw[aA,JW.out];exact cJ);have QN:cs.toArray.size=23:=by rw[aA,JW.out]
  have HCZ:=cE QN;clear QN;clear Wj;go_wp2_with fail
  refine rT fun wd hd=>?_
  refine O0 (S':=fun w'=>Kept (·=w.heap.size) wr w') (fun _ _=>trivial) _ _ _ _ ?_;have hS:Kept (·=w.heap.size) wr wd:=dm hd;refine tL 0 rfl hS 42 (.tmp 6) xb 0 cs HRN.out underlying42 HE.out ?_;refine tI 1 rfl hS ?_;refine tI 2 rfl hS ?_;refine tI 3 rfl hS ?_;simp only[cQ];refine tI 4 rfl hS ?_;simp only[cQ];refine cI 5 rfl ?_;refine(WZ wd rb rE (OJ.out.below hd)).mono ?_;rintro e w7 ⟨rfl,rfl⟩;refine⟨hS,?_⟩;simp only[cQ];refine tI 6 rfl hS ?_;refine tI 7 rfl hS ?_;simp only[cQ];have hT8:wd.there w.heap.size 0 cs.toArray.size:=by rw[HCZ.out];exact HT0.out wd hd
  have jL:Kept (·=w.heap.size) wr (wd.setCells w.heap.size 0 cs.toArray.toList):=hS.trans (ic wd w.heap.size 0 _);refine sI 8 rfl 42 (.tmp 2) (.tmp 34) w.heap.size 0 cs.toArray hT8 HE2.out ahm.out jL ?_;simp only[cQ];refine tI 9 rfl jL ?_;refine tI 10 rfl jL ?_;simp only[cQ];refine bg cK ?_ _;have acV:Hid ((wd.setCells w.heap.size 0 cs.toArray.toList).rangeAt w.heap.size 0 cs):=cE (an _ _ _ _ (by have h:=HT0.out wd hd;rw[←JW.out] at h;exact h));have YT:=cE jL;clear hT8 jL hS hd;go_wp2
  refine bq (pE rfl _ _ w.heap.size 0 cs _ rfl acV.out underlying42 rfl HE.out) rfl ?_;obtain⟨_,hdx,hw0,XQ,Je,hsw⟩:=HD2.out;have kA:cF w wr:=VC.out.2.1.trans (Je.mono cL);refine⟨o,i,fa,fc,L,E,.slice ga n n,?_,?_,kA.trans (YT.out.below kA.size (fun b e=>by have e:b=w.heap.size:=e;omega))⟩
  ·rw[←Wr.out.2,Wr.out.1,HCS.out]
   first|rfl|(rw[Bool.true_and,←Z8];rfl)
  rw[←Wr.out.2];exact(hdx.kept YT.out (fun b hb e=>by have e:b=w.heap.size:=e;have:=hb.1;omega)).mono (fun b hb=>by have:=hb.1;show w.heap.size≤b;omega)
 |false=>
 rw[Wj] at Wr;have HE:Hid (cH 42 cs.length):=cE (by rw[JW.out];exact cJ);have HE2:Hid (cH 42 cs.toArray.size):=cE (by rw[aA,JW.out];exact cJ);have QN:cs.toArray.size=23:=by rw[aA,JW.out]
 have HCZ:=cE QN;clear QN;clear Wj;go_wp2_with fail
 refine rT fun wd hd=>?_
 refine O0 (S':=fun w'=>Kept (·=w.heap.size) wr w') (fun _ _=>trivial) _ _ _ _ ?_;have hS:Kept (·=w.heap.size) wr wd:=dm hd;refine tL 0 rfl hS 42 (.tmp 6) xb 0 cs HRN.out underlying42 HE.out ?_;refine tI 1 rfl hS ?_;refine tI 2 rfl hS ?_;refine tI 3 rfl hS ?_;simp only[cQ];refine tN 4 rfl hS ?_;refine tN 5 rfl hS ?_;refine tN 6 rfl hS ?_;refine tI 7 rfl hS ?_;simp only[cQ];have hT8:wd.there w.heap.size 0 cs.toArray.size:=by rw[HCZ.out];exact HT0.out wd hd
 have jL:Kept (·=w.heap.size) wr (wd.setCells w.heap.size 0 cs.toArray.toList):=hS.trans (ic wd w.heap.size 0 _);refine sI 8 rfl 42 (.tmp 2) (.tmp 34) w.heap.size 0 cs.toArray hT8 HE2.out ahm.out jL ?_;simp only[cQ];refine tI 9 rfl jL ?_;refine tI 10 rfl jL ?_;simp only[cQ];refine bg cK ?_ _;have acV:Hid ((wd.setCells w.heap.size 0 cs.toArray.toList).rangeAt w.heap.size 0 cs):=cE (an _ _ _ _ (by have h:=HT0.out wd hd;rw[←JW.out] at h;exact h));have YT:=cE jL;clear hT8 jL hS hd;go_wp2
 refine bq (pE rfl _ _ w.heap.size 0 cs _ rfl acV.out underlying42 rfl HE.out) rfl ?_;obtain⟨_,hdx,hw0,XQ,Je,hsw⟩:=HD2.out;have kA:cF w wr:=VC.out.2.1.trans (Je.mono cL);refine⟨o,i,fa,fc,L,E,.slice ga n n,?_,?_,kA.trans (YT.out.below kA.size (fun b e=>by have e:b=w.heap.size:=e;omega))⟩
 ·rw[←Wr.out.2,Wr.out.1,HCS.out]
  first|rfl|(rw[Bool.true_and,←Z8];rfl)
 rw[←Wr.out.2];exact(hdx.kept YT.out (fun b hb e=>by have e:b=w.heap.size:=e;have:=hb.1;omega)).mono (fun b hb=>by have:=hb.1;show w.heap.size≤b;omega)
def ue:List aD:=(fR.zero 0).cells ⟨0,[],none,0,0,0,false,false,none,0,0⟩ ⟨none,0,none,0⟩ none 0
def ade(w:aj)(D:cP)(e:bH)(w':aj):Prop:=∃cs x,e=.returned (.tuple #[.agg cs.toArray,.i x])∧cF w w'∧
 ((mE D=true∧x=0∧∃o i fa fc L E,cs=(ey D).cells o i fa fc∧yM w' (fQ w.heap.size) (ey D) o L i E fa)∨(mE D=false∧x=2∧cs=ue))
theorem iy{w w1 wr:aj}{B:Nat}(hb:cF w wr)(o:Nat)(cs:List aD)(hB:w.heap.size≤B):cF w (wr.setCells B o cs):=
 hb.trans ((ic wr B o cs).below hb.size (fun b e=>by have e:b=B:=e;omega))
theorem Gk(w:aj)(ao:Option aR)(c:Nat)(lo:Nat→Prop)(D:cP)(hD:dN w lo ao c D)(hl:D.length≤1000000000):
  aQ prog 66 #[.slice ao D.length c] w (ade w D):=by
 obtain⟨w0,hw0,hb0,hs0,Jb⟩:=dO w [.B,.U,.U,.I,.U,.B,.z,.n,.I,.F,.F,.n,.I,.V,.I,.V,.n,.n,.U,.I,.I,.V,.n] 42;have hz0:w0.heap[w.heap.size]?=some (.cells #[.B,.U,.U,.I,.U,.B,.z,.n,.I,.F,.F,.n,.I,.V,.I,.V,.n,.n,.U,.I,.I,.V,.n] 42 (0,0)):=by rw[hw0];exact aT w _
 have HN:=cE (Ht w0 ao c lo D (hD.below hb0) hl);have VC:=cE (cD hw0 (cD hb0 (cD hs0 hz0)));clear hw0 hb0 hs0 Jb hz0;obtain⟨N,hN⟩:=cG D.length;have HNL:=cE hN;rw[←hN] at HN hl⊢;clear hD hN;go_enter func66,ntmps66
 go_wp2_with fail
 rw[←VC.out.1];refine HN.out.mono ?_;rintro e w1 ⟨o,i,fa,fc,L,E,u,rfl,hd,de⟩;have BR:((ey D).cells o i fa fc).length=23:=by simp[fR.cells,gF]
 have hone:(((ey D).cells o i fa fc).toArray:Array aD).all (·.oneCell')=true:=by simp[fR.cells,gF,aW]
 obtain⟨cs,hcs⟩:=cG ((ey D).cells o i fa fc);rw[←hcs] at BR hone⊢;obtain⟨wz,LH,hbz,hsz,TX⟩:=dO w1 [.B,.U,.U,.I,.U,.B,.z,.n,.I,.F,.F,.n,.I,.V,.I,.V,.n,.n,.U,.I,.I,.V,.n] 42;have hbk:wz.heap[w1.heap.size]?=some (.cells #[.B,.U,.U,.I,.U,.B,.z,.n,.I,.F,.F,.n,.I,.V,.I,.V,.n,.n,.U,.I,.I,.V,.n] 42 (0,0)):=by rw[LH];exact aT w1 _
 have HT:Hid (wz.there w1.heap.size 0 cs.toArray.size):=cE (dR hbk 0 _ (by rw[aA,BR];simp));have eY:Hid (cH 42 cs.toArray.size):=cE (by rw[aA,BR];exact cJ);have Ag:Hid (cH 42 cs.length):=cE (by rw[BR];exact cJ);have gu:=cE hone;have Sa:=cE (cD LH (cD hbz hbk));have Y3:=cE (cD hd (cD de (cD hcs BR)));clear hd de BR hone LH hbz hsz TX hbk;have uC:mE D=(mh D&&decide (N≤4096)):=by unfold mE;rw[HNL.out]
 have JV:=cE uC;clear uC hcs;obtain⟨ok,hok⟩:=cG (mh D);have OL:=cE hok;rw[←hok];clear hok;have lS:Hid ((wz.setCells w1.heap.size 0 cs.toArray.toList).there w.heap.size 0 23):=cE (by
  obtain⟨_,hb0,hs0,hz0⟩:=VC.out;have hb:=(Y3.out.2.1.trans (Sa.out.2.1.mono Y3.out.2.1.size));have hsz:=Y3.out.2.1.size;have hz:=(hb.block w.heap.size cL).trans hz0;exact dR (((ic wz w1.heap.size 0 cs.toArray.toList).block _ (aN hz) (fun e=>by have e:w.heap.size=w1.heap.size:=e;omega)).trans hz) 0 23 cN)
 have iG:Hid (∀vs,cF w ((wz.setCells w1.heap.size 0 cs.toArray.toList).setCells w.heap.size 0 vs)):=cE (fun vs=>by
  obtain⟨_,hb0,hs0,hz0⟩:=VC.out;have hb:=hb0.trans ((Y3.out.2.1.trans (Sa.out.2.1.mono Y3.out.2.1.size)).mono hb0.size);have:=Y3.out.2.1.size;exact iy (w1:=w) (iy (w1:=w) hb 0 _ cL) 0 _ (aG _))
 have GD:Hid ((wz.setCells w1.heap.size 0 cs.toArray.toList).rangeAt w1.heap.size 0 cs):=cE (an _ _ _ _ (by have h:=HT.out;rw[aA] at h;exact h));have HT2:Hid ((wz.setCells w1.heap.size 0 cs.toArray.toList).there w.heap.size 0 cs.toArray.size):=cE (by rw[show cs.toArray.size=23 by rw[aA,Y3.out.2.2.2]];exact lS.out);have MX:Hid ((wz.setCells w1.heap.size 0 cs.toArray.toList).there w.heap.size 0 cs.length):=cE (by rw[Y3.out.2.2.2];exact lS.out);have YU:Hid (cH 42 23):=cE cK;have ahk:Hid ((#[.B,.U,.U,.I,.U,.B,.z,.n,.I,.F,.F,.n,.I,.V,.I,.V,.n,.n,.U,.I,.I,.V,.n]:Array aD).all (·.oneCell')=true):=cE (by simp[aW]);cases ok with
 |false=>
  go_wp2_with (first
   |(rw[←Sa.out.1];refine aC rfl 42 (.tmp 4) (.tmp 10) rfl w1.heap.size 0 cs.toArray rfl rfl HT.out eY.out gu.out ?_)
   |(refine aC rfl 42 (.tmp 2) (.tmp 20) rfl w.heap.size 0 #[.B,.U,.U,.I,.U,.B,.z,.n,.I,.F,.F,.n,.I,.V,.I,.V,.n,.n,.U,.I,.I,.V,.n] rfl rfl lS.out YU.out ahk.out ?_))
  refine bq (iB rfl _ _ w.heap.size 0 ue _ rfl (an _ _ _ _ lS.out) underlying42 rfl YU.out) rfl ?_;refine⟨ue,2,rfl,iG.out _,.inr ⟨?_,rfl,rfl⟩⟩;rw[JV.out,←OL.out];rfl
 |true=>
 by_cases N6:N≤4096
 ·have t1:decide ((4096:Int)<(N:Int))=false:=by simp;omega
  have t2:decide (4096<N)=false:=by simp;omega
  have HLG:=cE N6;clear N6;go_wp2_with (first
   |(rw[←Sa.out.1];refine aC rfl 42 (.tmp 4) (.tmp 10) rfl w1.heap.size 0 cs.toArray rfl rfl HT.out eY.out gu.out ?_)
   |(refine aX rfl 42 (.tmp 4) rfl w1.heap.size 0 rfl cs _ GD.out underlying42 rfl Ag.out ?_)
   |(refine aC rfl 42 (.tmp 2) (.tmp 21) rfl w.heap.size 0 cs.toArray rfl rfl HT2.out eY.out gu.out ?_))
  refine bq (iB rfl _ _ w.heap.size 0 cs _ rfl (an _ _ _ _ MX.out) underlying42 rfl Ag.out) rfl ?_;obtain⟨hd,de,hcs,BR⟩:=Y3.out;obtain⟨_,hb0,hs0,hz0⟩:=VC.out;refine⟨cs,0,rfl,iG.out _,.inl ⟨?_,rfl,o,i,fa,fc,L,E,hcs,?_⟩⟩
  ·rw[JV.out,←OL.out]
   have:=HLG.out;simp[this]
  have apZ:=de.size;have K:=((dm (S:=(·=w.heap.size)) Sa.out.2.1).sY (ic wz w1.heap.size 0 cs.toArray.toList) (aG _)).trans (ic (wz.setCells w1.heap.size 0 cs.toArray.toList) w.heap.size 0 cs.toArray.toList);exact(hd.Ev K (fun b hb _ e=>by have e:b=w.heap.size:=e;have hb:w0.heap.size≤b:=hb;omega)).mono (fun b hb=>aq hb0.size hb)
 have t1:decide ((4096:Int)<(N:Int))=true:=by simp;omega
 have t2:decide (4096<N)=true:=by simp;omega
 have HLG:=cE N6;clear N6;go_wp2_with (first
  |(rw[←Sa.out.1];refine aC rfl 42 (.tmp 4) (.tmp 10) rfl w1.heap.size 0 cs.toArray rfl rfl HT.out eY.out gu.out ?_)
  |(refine aC rfl 42 (.tmp 2) (.tmp 20) rfl w.heap.size 0 #[.B,.U,.U,.I,.U,.B,.z,.n,.I,.F,.F,.n,.I,.V,.I,.V,.n,.n,.U,.I,.I,.V,.n] rfl rfl lS.out YU.out ahk.out ?_))
 refine bq (iB rfl _ _ w.heap.size 0 ue _ rfl (an _ _ _ _ lS.out) underlying42 rfl YU.out) rfl ?_;refine⟨ue,2,rfl,iG.out _,.inr ⟨?_,rfl,rfl⟩⟩;rw[JV.out,←OL.out];have:=HLG.out;simp[this]
def iS.cells(X:iS)(o:cV)(i:dS)(fa:Option aR)(fc:Nat):List aD:=gF X.kind X.oh X.req X.os X.on o X.dY i X.site X.dK X.ep fa X.fr.length fc
structure alD(x:iS):Prop where
 kind:x.kind<256
 oh:x.oh<4294967296
 req:x.req<4294967296
 os:mW x.os
 on:x.on<4294967296
 site:mW x.site
 dK:mW x.dK
 ep:x.ep<18446744073709551616
 ew:mW x.dY.ew
 I6:mW x.dY.dK
structure nV(w:aj)(X:iS)(o:cV)(i:dS)(L:List cZ)(fa:Option aR):Prop where
 op:∃n,pY w n o X.Ik
 dY:uT w i L X.dY
 fr:mP w fa X.fr.length X.fr
 num:alD X
 size:X.Ik.length+jY X.dY+8*X.fr.length≤50000000
theorem nV.below{w w':aj}{X:iS}{o:cV}{i:dS}{L:List cZ}{fa:Option aR}(h:nV w X o i L fa)(hb:cF w w'):nV w' X o i L fa:=
 ⟨h.op.imp fun n h=>h.below hb,h.dY.below hb,h.fr.below hb,h.num,h.size⟩
theorem Qz(x:gK):(nK x).length≤60+jY x:=by
 unfold nK jY;have h1:=EV x.dB;have h2:=jd x.stamp;simp only[ah,dw,h2];omega
theorem Kk(x:iS):(qS x).length=10:=rfl
def mZ(x:iS)(k:Nat):cP:=((qS x).take k).flatMap fun v=>dI 8 (oN v)
theorem GQ{x:iS}{k:Nat}{v:Int}(h:(qS x)[k]?=some v):mZ x (k+1)=mZ x k++dI 8 (oN v):=jm _ h
theorem AB(x:iS)(k:Nat)(hk:k≤10):(mZ x k).length≤80:=by
 unfold mZ;have:∀L:List Int,(L.flatMap fun v=>dI 8 (oN v)).length=8*L.length:=fun L=>by
  induction L with
  |nil=>rfl
  |cons a L ih=>rw[aE,ah,dw,ih,aZ];omega
 rw[this,List.length_take];omega
theorem Dz(w:aj)(X:iS)(o:cV)(i:dS)(L:List cZ)(fa:Option aR)(fc:Nat)(h:nV w X o i L fa):
  aQ prog 166 #[.agg (X.cells o i fa fc).toArray] w (eU w (qf X)):=by
 obtain⟨n,hop⟩:=h.op;have pO:=h.num;have hsize:=h.size;obtain⟨w1,hw1,de,hs1,eW⟩:=dO w (X.cells o i fa fc) 42;have hin:=h.below de;have HWX:Hid (qf X=mZ X 10++X.Ik++iK X.fr++nK X.dY):=cE rfl;rw[HWX.out];have c0:∀w',cF w1 w'→w'.cell? ⟨w.heap.size,0,none⟩=some (.b (X.kind:Int)):=fun w' h=>eW w' h 0 _ rfl
 have c1:∀w',cF w1 w'→w'.cell? ⟨w.heap.size,1,none⟩=some (.u (X.oh:Int)):=fun w' h=>eW w' h 1 _ rfl
 have c2:∀w',cF w1 w'→w'.cell? ⟨w.heap.size,2,none⟩=some (.u (X.req:Int)):=fun w' h=>eW w' h 2 _ rfl
 have c3:∀w',cF w1 w'→w'.cell? ⟨w.heap.size,3,none⟩=some (.i X.os):=fun w' h=>eW w' h 3 _ rfl
 have c4:∀w',cF w1 w'→w'.cell? ⟨w.heap.size,4,none⟩=some (.u (X.on:Int)):=fun w' h=>eW w' h 4 _ rfl
 have ML:∀w',cF w1 w'→w'.cell? ⟨w.heap.size,12,none⟩=some (.i X.dY.ew):=fun w' h=>eW w' h 12 _ rfl
 have Oo:∀w',cF w1 w'→w'.cell? ⟨w.heap.size,14,none⟩=some (.i X.dY.dK):=fun w' h=>eW w' h 14 _ rfl
 have Ru:∀w',cF w1 w'→w'.cell? ⟨w.heap.size,19,none⟩=some (.i X.site):=fun w' h=>eW w' h 19 _ rfl
 have Ka:∀w',cF w1 w'→w'.cell? ⟨w.heap.size,20,none⟩=some (.i X.dK):=fun w' h=>eW w' h 20 _ rfl
 have MK:∀w',cF w1 w'→w'.cell? ⟨w.heap.size,21,none⟩=some (.v (X.ep:Int)):=fun w' h=>eW w' h 21 _ rfl
 have Rt:∀w',cF w1 w'→w'.cell? ⟨w.heap.size,22,none⟩=some (.slice fa X.fr.length fc):=fun w' h=>eW w' h 22 _ rfl
 have hro:∀w',cF w1 w'→w'.rangeAt w.heap.size 5 o.cells:=fun w' h j u hu=>by
  have:=eW w' h (5+j) u (by
   unfold iS.cells gF;have hj:=(ay.1 hu).1;simp[cV.cells] at hj;have:j=0∨j=1∨j=2∨j=3∨j=4∨j=5∨j=6:=by omega
   rcases this with rfl|rfl|rfl|rfl|rfl|rfl|rfl<;>exact hu)
  rwa [aM] at this
 have hri:∀w',cF w1 w'→w'.rangeAt w.heap.size 12 (cT X.dY i):=fun w' h j u hu=>by
  have:=eW w' h (12+j) u (by
   unfold iS.cells gF;have hj:=(ay.1 hu).1;simp[cT] at hj;have:j=0∨j=1∨j=2∨j=3∨j=4∨j=5∨j=6:=by omega
   rcases this with rfl|rfl|rfl|rfl|rfl|rfl|rfl<;>exact hu)
  rwa [aM] at this
 have HR:=cE (cD hro (cD hri Rt));have HW:=cE (cD hw1 de);have Az:=cE (cD hin (cD hop (cD pO hsize)));have b1:=aa w1.heap.size w1;have x0:=c0 w1 b1;have x1:=c1 w1 b1;have x2:=c2 w1 b1;have x3:=c3 w1 b1;have x4:=c4 w1 b1;have x12:=ML w1 b1;have x14:=Oo w1 b1;have x19:=Ru w1 b1;have x20:=Ka w1 b1;have x21:=MK w1 b1;have w64:∀m:Nat,m<9223372036854775808→bC (m:Int)=(m:Int):=fun m hm=>by unfold bC;omega
 have t0:∀_:True,bC (X.kind:Int)=(X.kind:Int):=fun _=>w64 _ (by have:=pO.kind;omega)
 have t1:∀_:True,bC (X.oh:Int)=(X.oh:Int):=fun _=>w64 _ (by have:=pO.oh;omega)
 have t2:∀_:True,bC (X.req:Int)=(X.req:Int):=fun _=>w64 _ (by have:=pO.req;omega)
 have t3:∀_:True,bC (X.on:Int)=(X.on:Int):=fun _=>w64 _ (by have:=pO.on;omega)
 obtain⟨w2,eS,dz,hs2,hr2⟩:=dO w1 [.i (X.kind:Int),.i (X.oh:Int),.i (X.req:Int),.i X.os,.i (X.on:Int),.i X.site,.i X.dK,.i (bC (X.ep:Int)),.i X.dY.ew,.i X.dY.dK] 2;have hrow:∀w',cF w2 w'→∀(k:Nat) v,(qS X)[k]?=some v→w'.cell? ⟨w1.heap.size,k,none⟩=some (.i v):=fun w' h k v hv=>by
  have:=hr2 w' h k (.i v) (by
   have e:[bF .i64 (X.kind:Int),.i (X.oh:Int),.i (X.req:Int),.i X.os,.i (X.on:Int),.i X.site,.i X.dK,.i (bC (X.ep:Int)),.i X.dY.ew,.i X.dY.dK]=(qS X).map (bF .i64):=rfl;rw[e,aF,hv];rfl)
  rwa [aM] at this
 have Dr:=cE hrow;have lS:=cE (cD eS (cD dz (de.trans (dz.mono de.size))));clear w64 eS dz hs2 hr2 hrow;clear h hw1 de hs1 eW hin hop pO hsize hro hri c0 c1 c2 c3 c4 ML Oo Ru Ka MK Rt b1;go_enter func166,ntmps166
 go_upto_region 2 with fail
 rw[←HW.out.1];go_wp2
 rw[←lS.out.1];clear x0 x1 x2 x3 x4 x12 x14 x19 x20 x21 t0 t1 t2 t3;go_loopw [3,37] (fun bv kv wr=>∃(k:Nat) (a:Option aR) (n c:Nat),k≤10∧kv=.i k∧bv=.slice a n c∧Hid (iF w2 (mZ X k) a n c wr)) (fun _ kv _=>10 - (intOf kv).toNat)
 case atStart=>exact⟨0,none,0,0,by omega,rfl,rfl,cE ⟨rfl,JC _ _,aa _ _⟩⟩
 obtain⟨k,a,m,c,hk,rfl,rfl,HS⟩:=hrel;by_cases hlt:k<10
 ·obtain⟨v,hv⟩:∃v,(qS X)[k]?=some v:=⟨_,ag (by rw[Kk];exact hlt)⟩
  have y:=Dr.out wr HS.out.bl k v hv;have HC:=cE (wE wr HS.out.pN (aq (AB X k cL) cL) v);have HV:=cE hv;clear hv;have s1:decide ((k:Int)<10)=true:=by simp;omega
  go_wp2_with fail
  refine HC.out.mono ?_;rintro e w3 ⟨a3,n3,c3,rfl,h1⟩;have H3:Hid (iF w2 (mZ X (k+1)) a3 n3 c3 w3):=cE ((h1.trans HS.out.bl).cast (GQ HV.out).symm);clear h1 y;go_wp2
  go_roundw
  case rel=>exact⟨k+1,a3,n3,c3,by omega,by go_num,rfl,H3⟩
  case measure=>simp[intOf];omega
 obtain rfl:k=10:=by omega
 clear hlt hk;have HB:Hid (cF w1 wr):=cE (lS.out.2.1.trans (HS.out.bl.mono lS.out.2.1.size));have HLK:=cE (AB X 10 cL);have qP:Hid (cH 35 o.cells.length):=cE (by show _=some 7;exact cJ);have HSI:Hid ((prog.info? 40).map (·.size)=some (cT X.dY i).length):=cE (by show _=some 7;kernel_rfl);have y22:=HR.out.2.2;go_wp2_with fail
 refine rC HB.out fun wd hS hd=>?_
 refine tI 0 rfl hS ?_;refine tI 1 rfl hS ?_;refine tI 4 rfl hS ?_;refine tJ 5 rfl hS y22 ?_;simp only[cQ];refine tL 2 rfl hS 35 (.tmp 46) w.heap.size 5 o.cells HR.out.1 underlying35 qP.out ?_;simp only[cQ];refine cI 3 rfl ?_;have q1:(mZ X 10).length+X.Ik.length≤200000000:=by have:=HLK.out;have:=Az.out.2.2.2;omega
 refine(FA n wd a m c (mZ X 10) o X.Ik (HS.out.pN.below hd) ((Az.out.2.1.below HW.out.2).below hS) q1).mono ?_;rintro e w3 ⟨a3,n3,c3,rfl,P3⟩;have dU:=hS.trans (P3.bl.mono hS.size);refine⟨dU,?_⟩;simp only[cQ];refine cI 6 rfl ?_;have q2:(mZ X 10++X.Ik++iK X.fr).length≤800000000:=by have:=HLK.out;have:=Az.out.2.2.2;have:=jd X.fr;simp only[ah];omega
 refine(xN w3 P3.pN (sc:=fc) (Az.out.1.fr.below dU) q2).mono ?_;rintro e w4 ⟨a4,n4,c4,rfl,P4⟩;have eM:=dU.trans (P4.bl.mono dU.size);refine⟨eM,?_⟩;simp only[cQ];refine tI 7 rfl eM ?_;simp only[cQ];refine bg cK ?_ _;have P5:=(P4.trans (P3.bl)).trans hd;have H5:=cE (cD P5 eM);clear P3 P4 P5 hS dU eM hd q1 q2 y22;go_wp2_with (refine aX rfl 40 (.tmp 53) rfl w.heap.size 12 rfl (cT X.dY i) _ (HR.out.2.1 w4 H5.out.2) underlying40 rfl HSI.out ?_)
 have q3:(mZ X 10++X.Ik++iK X.fr).length+jY X.dY≤200000000:=by have:=HLK.out;have:=Az.out.2.2.2;have:=jd X.fr;simp only[ah];omega
 refine(I5 w4 H5.out.1.pN i L X.dY (Az.out.1.dY.below H5.out.2) q3).mono ?_;rintro e w6 ⟨a6,n6,c6,rfl,P6⟩;have H6:=cE ((((P6.trans H5.out.1.bl).trans HS.out.bl).trans lS.out.2.2));clear P6 q3;go_wp2
 go_ret
 exact⟨a6,n6,c6,rfl,H6.out⟩
attribute [local go_sem] jg jf
theorem abm(w:aj){a:Option aR}{n c:Nat}{cs:List (List aD)}(hc:gR w 3 a cs)(hn:n=cs.length)(hl:n≤1000000000)(cv:aD)(bad:Nat→Bool)
  (HF:∀W,cF w W→∀(k:Nat) x,cs[k]?=some x→aQ prog 61 #[.agg x.toArray,cv] W fun e w'=>e=.returned (.bool (bad k))∧cF W w'):
  aQ prog 161 #[.slice a n c,.func (.func 61) #[] #[cv]] w fun e w'=>∃i:Int,e=.returned (.i i)∧decide (0≤i)=(aK n).any bad∧cF w w':=by
 have HD:=cE (cD hc (cD hn HF));have eY:Hid (cH 137 3):=cE cK;clear hc hn HF;go_enter func161,ntmps161
 go_wp2
 go_loopw [8] (fun kv wr=>∃k:Nat,k≤n∧kv=.i k∧Hid ((aK k).any bad=false∧cF w wr)) (fun kv _=>n - (intOf kv).toNat)
 case atStart=>exact⟨0,by omega,rfl,cE ⟨rfl,aa _ _⟩⟩
 obtain⟨k,hk,rfl,HS⟩:=hrel;by_cases hlt:k<n
 ·obtain⟨x,hx⟩:∃x,cs[k]?=some x:=⟨_,ag (by rw[←HD.out.2.1];exact hlt)⟩
  obtain⟨b,off,hao,hb,eW,hlen⟩:=HD.out.1 k x hx;subst hao;have mX:=cE (cD (dA eW HS.out.2 hb) hlen);have HC:=cE (HD.out.2.2 wr HS.out.2 k x hx);obtain⟨g,hg⟩:=cG (bad k);have HG:=cE hg;rw[←hg] at HC;clear eW hb hx hlen hg;go_wp2_with (refine aX rfl 137 (.tmp 14) rfl b (off+k*3) rfl x _ mX.out.1 underlying137 rfl (by rw[mX.out.2];exact eY.out) ?_)
  refine HC.out.mono ?_;rintro e w2 ⟨rfl,h1⟩;have H2:=cE (HS.out.2.trans (h1.mono HS.out.2.size));clear h1;cases g with
  |true=>
   have HB:Hid (decide ((0:Int)≤(k:Int))=(aK n).any bad):=cE (by
    rw[bu.2 ⟨k,bB.2 hlt,HG.out.symm⟩];simp)
   go_wp2
   go_ret
   exact⟨k,rfl,HB.out,H2.out⟩
  |false=>
  have HB:Hid ((aK (k+1)).any bad=false):=cE (by
   rw[List.range_succ,List.any_append,HS.out.1];simp[←HG.out])
  go_wp2
  go_roundw
  case rel=>exact⟨k+1,by omega,by go_num,cE ⟨HB.out,H2.out⟩⟩
  case measure=>simp[intOf];omega
 obtain rfl:n=k:=by omega
 have t1:decide ((n:Int)<(n:Int))=false:=by simp
 have t2:decide (n<n)=false:=by simp
 clear hlt hk;go_wp2
 go_ret
 exact⟨-1,rfl,by rw[HS.out.1];rfl,HS.out.2⟩
theorem Rk(w:aj){a:Option aR}{n c:Nat}{cs:List (List aD)}(hc:gR w 3 a cs)(hn:n=cs.length)(hl:n≤1000000000)(cv:aD)(bad:Nat→Bool)
  (HF:∀W,cF w W→∀(k:Nat) x,cs[k]?=some x→aQ prog 61 #[.agg x.toArray,cv] W fun e w'=>e=.returned (.bool (bad k))∧cF W w'):
  aQ prog 60 #[.slice a n c,.func (.func 61) #[] #[cv]] w fun e w'=>e=.returned (.bool ((aK n).any bad))∧cF w w':=by
 have HI:=cE (abm w (c:=c) hc hn hl cv bad HF);obtain⟨g,hg⟩:=cG ((aK n).any bad);rw[←hg] at HI⊢;clear hc hn hl HF hg;go_enter func60,ntmps60
 go_wp2_with fail
 refine HI.out.mono ?_;rintro e w2 ⟨i,rfl,h0,h1⟩;have H1:=cE h1;clear h1;go_wp2
 go_ret
 exact⟨rfl,H1.out⟩
theorem MM(w:aj){a1 a2:Option aR}{n1 n2 c1 c2:Nat}{D1 D2:cP}(h1:BytesIn w a1 n1 c1 D1)(h2:BytesIn w a2 n2 c2 D2):
  aQ prog 165 #[.slice a1 n1 c1,.slice a2 n2 c2] w fun e w'=>e=.returned (.bool (decide (D1=D2)))∧w=w':=by
 have q1:=rQ (c:=c1) h1.at_.at_ h1.at_.nil;have q2:=rQ (c:=c2) h2.at_.at_ h2.at_.nil;rw[←h1.len] at q1;rw[←h2.len] at q2;have q3:=Cc D1 D2;clear h1 h2;go_enter func165,ntmps165
 go_wp2
 go_ret
 exact⟨by rw[←q3];rfl,rfl⟩
theorem AT(w:aj)(X Y:iS)(o o2:cV)(i i2:dS)(L L2:List cZ)(fa fa2:Option aR)(fc fc2:Nat)(h:nV w X o i L fa)(h2:nV w Y o2 i2 L2 fa2):
  aQ prog 64 #[.agg (X.cells o i fa fc).toArray,.agg (Y.cells o2 i2 fa2 fc2).toArray] w fun e w'=>e=.returned (.bool (Hi X Y))∧cF w w':=by
 obtain⟨w1,hw1,de,hs1,kH⟩:=dO w (X.cells o i fa fc) 42;obtain⟨w2,eS,dz,hs2,hr2⟩:=dO w1 (Y.cells o2 i2 fa2 fc2) 42;have me:=cE (cD hw1 de);have lS:=cE (cD eS dz);have HX:=cE fun W (hb:cF w2 W)=>Dz W X o i L fa fc (((h.below de).below dz).below hb)
 have HY:=cE fun W (hb:cF w2 W)=>Dz W Y o2 i2 L2 fa2 fc2 (((h2.below de).below dz).below hb)
 rw[hs1] at hr2;have HR:=cE (cD (fun W (hb:cF w2 W)=>kH W (dz.trans (hb.mono dz.size))) hr2);have HB:=cE (de.trans (dz.mono de.size));have sR:Hid ((prog.info? 42).map (·.size)=some (X.cells o i fa fc).length):=cE (by show _=some 23;kernel_rfl);have HS2:Hid ((prog.info? 42).map (·.size)=some (Y.cells o2 i2 fa2 fc2).length):=cE (by show _=some 23;kernel_rfl);generalize X.cells o i fa fc=cx at*;generalize Y.cells o2 i2 fa2 fc2=cy at*;clear h h2 hw1 eS de dz kH hr2 hs1 hs2;go_enter func64,ntmps64
 go_upto_region 1 with fail
 rw[←me.out.1,←lS.out.1];go_wp2_with fail
 refine rB fun wd hS=>?_
 refine tL 0 rfl hS 42 (.tmp 2) w.heap.size 0 cx HR.out.1 underlying42 sR.out ?_;refine tL 2 rfl hS 42 (.tmp 3) (w.heap.size+1) 0 cy HR.out.2 underlying42 HS2.out ?_;simp only[cQ];refine cI 1 rfl ?_;refine(HX.out wd hS).mono ?_;rintro e w3 ⟨a3,n3,c3,rfl,P3⟩;have dU:=hS.trans (P3.bl.mono hS.size);refine⟨dU,?_⟩;simp only[cQ];refine cI 3 rfl ?_;refine(HY.out w3 dU).mono ?_;rintro e w4 ⟨a4,n4,c4,rfl,P4⟩;have eM:=dU.trans (P4.bl.mono dU.size);refine⟨eM,?_⟩;simp only[cQ];refine cI 4 rfl ?_;refine(MM w4 (P3.pN.below P4.bl) P4.pN).mono ?_;rintro e w5 ⟨rfl,rfl⟩;refine⟨eM,?_⟩;simp only[cQ];refine tI 5 rfl eM ?_;simp only[cQ];refine bg cK ?_ _;have H4:=cE (HB.out.trans (eM.mono HB.out.size));clear hS dU eM P3 P4;go_wp2
 go_ret
 exact⟨rfl,H4.out⟩
def Pt.UJ:Pt→Option FuncId
 |.client=>none
 |.owner=>some 131
 |.op=>some 137
 |.item=>some 142
 |.site=>some 147
 |.place=>some 152
 |.epoch=>none
 |.stamp=>some 160
theorem Pt.WE(p:Pt):p.CR=match p.UJ with
 |none=>.nilFunc
 |some f=>.func (.func f) #[] #[]:=by cases p<;>rfl
theorem Pt.Mh(p:Pt){f:FuncId}(h:p.UJ=some f):∀args w,(callFunc f args).run prog w=.ok (.enter f args) w:=by
 cases p with
 |client=>cases h
 |owner=>cases h;exact au func131 cK rfl
 |op=>cases h;exact au func137 cK rfl
 |item=>cases h;exact au func142 cK rfl
 |site=>cases h;exact au func147 cK rfl
 |place=>cases h;exact au func152 cK rfl
 |epoch=>cases h
 |stamp=>cases h;exact au func160 cK rfl
theorem Pt.Tz{p:Pt}(h:p.UJ=none)(X:iS):p.may X=true:=by cases p<;>first|rfl|cases h
theorem Tr(w:aj)(f:FuncId):(binOp .neq 135 (.func (.func f) #[] #[]) .nilFunc).run prog w=.ok (.T) w:=by kernel_rfl
theorem Tq(w:aj):(binOp .neq 135 .nilFunc .nilFunc).run prog w=.ok (.F) w:=by kernel_rfl
def aan(w:aj)(xb:Nat)(X:iS):Prop:=∀(p:Pt) f,p.UJ=some f→∀W,cF w W→aQ prog f #[.p xb] W fun e w'=>e=.returned (.bool (p.may X))∧cF W w'
theorem Px(w:aj)(xb:Nat)(X:iS)(HM:aan w xb X)(p:Pt)(W:aj)(hW:cF w W):
  aQ prog 61 #[.agg p.cells.toArray,.p xb] W fun e w'=>e=.returned (.bool (!p.may X))∧cF W w':=by
 have hv:=p.WE;unfold Pt.cells;obtain⟨w1,hw1,de,hs1,kH⟩:=dO W [.func (.func p.Dh) #[] #[],.func (.func p.qO) #[] #[],p.CR] 137;have y2:w1.cell? ⟨W.heap.size,2,none⟩=some p.CR:=kH w1 (aa _ _) 2 _ rfl;have me:=cE (cD hw1 de);cases hf:p.UJ with
 |none=>
  rw[hf] at hv;dsimp only at hv;rw[hv] at me y2⊢;have hm:=Pt.Tz hf X;rw[hm];have q:=Tq;clear hw1 de hs1 kH HM hW hv hf hm;go_enter func61,ntmps61
  go_upto_region 1 with fail
  rw[←me.out.1];go_wp2
  go_ret
  exact⟨rfl,me.out.2⟩
 |some f=>
 rw[hf] at hv;dsimp only at hv;rw[hv] at me y2⊢;have BO:=p.Mh hf;have q:=Tr;have HC:=cE (HM p f hf w1 (hW.trans (de.mono hW.size)));obtain⟨g,hg⟩:=cG (p.may X);rw[←hg] at HC⊢;clear hw1 de hs1 kH HM hW hv hf hg;go_enter func61,ntmps61
 go_upto_region 1 with fail
 rw[←me.out.1];go_wp2_with fail
 refine HC.out.mono ?_;rintro e w2 ⟨rfl,h2⟩;have H2:=cE (me.out.2.trans (h2.mono me.out.2.size));clear h2;cases g with
 |true=>
  go_wp2
  go_ret
  exact⟨rfl,H2.out⟩
 |false=>
 go_wp2
 go_ret
 exact⟨rfl,H2.out⟩
def jz(w:aj)(o:cV)(M:Bool):Prop:=∃(cs:List (List aD)) (may:Nat→Bool),gR w 7 o.pa cs∧o.pn=cs.length∧o.pn≤1000000000∧M=oA o 6 may∧
 ∀W,cF w W→∀(k:Nat) x,cs[k]?=some x→o.pn≤6→aQ prog 235 #[.agg x.toArray] W fun e w'=>e=.returned (.bool (may k))∧cF W w'
theorem jz.below{w w':aj}{o:cV}{M:Bool}(h:jz w o M)(hb:cF w w'):jz w' o M:=by
 obtain⟨cs,may,h1,h2,h3,h4,h5⟩:=h;exact⟨cs,may,h1.below hb,h2,h3,h4,fun W hW=>h5 W (hb.trans (hW.mono hb.size))⟩
structure Dw(w:aj)(xb:Nat)(X:iS)(o:cV)(i:dS)(L:List cZ)(fa:Option aR)(fc:Nat):Prop where
 rng:w.rangeAt xb 0 (X.cells o i fa fc)
 lt:xb<w.heap.size
 V8:nV w X o i L fa
section
variable{w:World}{xb:Nat}{X:iS}{o:cV}{i:dS}{L:List cZ}{fa:Option Addr}{fc:Nat}
theorem Dw.below{w':aj}(h:Dw w xb X o i L fa fc)(hb:cF w w'):Dw w' xb X o i L fa fc:=⟨dA h.rng hb h.lt,aJ h.lt hb.size,h.V8.below hb⟩
theorem Dw.cell(h:Dw w xb X o i L fa fc)(k:Nat)(v:aD)(hv:(X.cells o i fa fc)[k]?=some v):w.cell? ⟨xb,k,none⟩=some v:=by
 have:=h.rng k v hv
 rwa [aM] at this
theorem Dw.ajB(h:Dw w xb X o i L fa fc):aak w xb X:=fun p W ao nb c B hW hB hl=>by
 have hb:=h.below hW;have hn:=h.V8.num;have hs:=h.V8.size;rw[ah] at hl;cases p with
 |client=>exact Lb W hB xb X.oh X.req (hb.cell 1 _ rfl) (hb.cell 2 _ rfl) cL hn.oh hn.req
 |owner=>exact Pu W hB xb X.os X.on (hb.cell 3 _ rfl) (hb.cell 4 _ rfl) cL ⟨by omega,by have:=hn.on;omega⟩
 |op=>
  obtain⟨n,hop⟩:=hb.V8.op;exact W8 W hB xb o n X.Ik (hb.cell 5 _ rfl) (hb.cell 6 _ rfl) (hb.cell 7 _ rfl) (hb.cell 8 _ rfl) (hb.cell 9 _ rfl) (hb.cell 10 _ rfl) (hb.cell 11 _ rfl) hop (by have:B.length+X.Ik.length≤100000000:=hl;omega)
 |item=>
  exact Pv W hB xb i L X.dY (hb.cell 12 _ rfl) (hb.cell 13 _ rfl) (hb.cell 14 _ rfl) (hb.cell 15 _ rfl) (hb.cell 16 _ rfl) (hb.cell 17 _ rfl) (hb.cell 18 _ rfl) hb.V8.dY cL
 |site=>exact S9 W hB xb X.site (hb.cell 19 _ rfl) cL
 |place=>exact Pq W hB xb X.dK (hb.cell 20 _ rfl) cL
 |epoch=>exact Pw W hB xb X.ep (hb.cell 21 _ rfl) cL hn.ep
 |stamp=>exact La W hB xb X.fr (hb.cell 22 _ rfl) hb.V8.fr (by rw[ah];exact aq hl cL)
theorem Bc{L:List cZ}{k:Nat}{c:List aD}(h:(L.map cZ.cells)[k]?=some c):∃r,L[k]?=some r∧c=r.cells:=by
 simp only[aF,aH] at h;obtain⟨r,h1,h2⟩:=h;exact⟨r,h1,h2.symm⟩
theorem Dw.ajH(h:Dw w xb X o i L fa fc)(hm:jz w o X.od):aan w xb X:=fun p f hf W hW=>by
 have hb:=h.below hW;cases p with
 |client=>cases hf
 |epoch=>cases hf
 |owner=>cases hf;exact Qe W xb X.os X.on (hb.cell 3 _ rfl) (hb.cell 4 _ rfl)
 |op=>
  cases hf;obtain⟨cs,may,h1,h2,h3,h4,h5⟩:=hm.below hW;have:=Xu W xb o cs may (hb.cell 5 _ rfl) (hb.cell 6 _ rfl) (hb.cell 7 _ rfl) (hb.cell 8 _ rfl) (hb.cell 9 _ rfl) (hb.cell 10 _ rfl) (hb.cell 11 _ rfl) h1 h2 h3 h5;rw[←h4] at this;exact this
 |item=>
  cases hf;have he:=hb.V8.dY.dB;refine Qf W xb X.dY i (L.map cZ.cells) (hb.cell 12 _ rfl) (hb.cell 13 _ rfl) (hb.cell 14 _ rfl) (hb.cell 15 _ rfl) (hb.cell 16 _ rfl) (hb.cell 17 _ rfl) (hb.cell 18 _ rfl) (fun k c hk=>?_) (by rw[aU];exact he.like.1.symm) (by have:=Jm X.dY.dB;have:=h.V8.size;unfold jY at this;omega) (fun W2 hW2 k c hk=>?_)
  ·obtain⟨r,hr,rfl⟩:=Bc hk
   obtain⟨b,off,e1,e2,e3⟩:=he.at_ k r hr;exact⟨b,off,e1,e2,e3,rfl⟩
  ·obtain⟨r,hr,rfl⟩:=Bc hk
   have hkl:k<X.dY.dB.length:=by rw[←he.like.1];exact(ay.1 hr).1
   have hx:=ag hkl;have hd:X.dY.dB.getD k ⟨[],false,iN⟩=X.dY.dB[k]:=by simp[List.getD,hx]
   rw[hd];exact Lu W2 r _ ((he.like.2 k r _ hr hx).below hW2)
 |site=>cases hf;exact(Tx W xb X.site (hb.cell 19 _ rfl)).mono fun e w' ⟨h1,h2⟩=>⟨h1,by rw[←h2];exact aa _ _⟩
 |place=>cases hf;exact(Qd W xb X.dK (hb.cell 20 _ rfl)).mono fun e w' ⟨h1,h2⟩=>⟨h1,by rw[←h2];exact aa _ _⟩
 |stamp=>cases hf;exact(Lt W xb fa X.fr.length fc (hb.cell 22 _ rfl)).mono fun e w' ⟨h1,h2⟩=>⟨h1,by rw[←h2];exact aa _ _⟩
end
theorem vV{o:eC}(h:uS o):(opHead o).length≤147:=by
 have h1:=h.path;have h2:=h.data;rw[jQ];omega
theorem PK{o:eC}{ps:List eC}(ho:uS o)(hl:ps.length≤6)(hp:∀p∈ps,uS p):(V5 o ps).length≤2000:=by
 have h1:=vV ho;have h2:∀L:List eC,(∀p∈L,uS p)→(L.flatMap fun p=>opHead p++(dI 8 0++[])).length≤155*L.length:=fun L=>by
  induction L with
  |nil=>intro _;exact aG _
  |cons a L ih=>
   intro h;have h3:=ih (fun p hp=>h p (aL _ hp));have h4:=vV (h a aI);rw[aE,ah,ah,ah,dw,aZ];simp only[bA];omega
 have h3:=h2 ps hp;unfold V5;rw[ah,ah,dw];omega
theorem Jn{E:List gh}(h:∀e∈E,rY e):lu E≤194*E.length:=by
 unfold lu
 induction E with
 |nil=>exact aG _
 |cons a E ih=>
  have h1:=ih (fun e he=>h e (aL _ he));have h2:=(h a aI).path;have h3:=(h a aI).node.data;rw[List.map_cons,List.sum_cons,aZ];omega
theorem yM.pN{w:aj}{lo:Nat→Prop}{v:fR}{o:cV}{L:List cV}{i:dS}{E:List cZ}{fa:Option aR}(h:yM w lo v o L i E fa)(hs:mC v):nV w v.x o i E fa:=by
 have hlen:o.pn=v.parts.length:=h.pn.trans h.like.1;refine⟨⟨2,v.op,v.parts.map (fun p=>opHead p++(dI 8 0++[])),h.leaf.both (fun _ _ _=>trivial),⟨hs.op.kind,hs.op.gS⟩,?_,by rw[aU];exact hlen,fun k D hk=>?_⟩,⟨⟨rfl,h.dY.stamp.mono (fun _ _ _=>trivial),hs.dY.stamp.2⟩,⟨rfl,⟨h.dY.like.1,fun k r e h1 h2=>?_⟩,h.dY.row,fun e he=>(hs.dY.dB.2 e he).node.num⟩,hs.dY.seq,hs.dY.ep,hs.dY.cl⟩,⟨rfl,h.fr.mono (fun _ _ _=>trivial),hs.fr.2⟩,?_,?_⟩
 ·show V5 v.op v.parts=_
  unfold V5;rw[hlen,BA]
 ·simp only[aF,aH] at hk
  obtain⟨p,hp,rfl⟩:=hk;have hkl:=(ay.1 hp).1;obtain⟨q,hq⟩:∃q,L[k]?=some q:=⟨_,ag (by rw[h.like.1];exact hkl)⟩;obtain⟨g,e1,_,e3,e4⟩:=h.row k q hq;obtain⟨hl,e5,e6,e7⟩:=h.like.2 k q p hq hp;have hps:=hs.parts p (bJ hp);exact⟨g,0,q,e1,e3,by rw[aM];exact e4,p,[],hl.both (fun _ _ _=>trivial),⟨hps.kind,hps.gS⟩,by rw[e6];rfl,e6,fun j D hj=>by simp at hj⟩
 ·obtain⟨g1,g2,g3⟩:=h.dY.like.2 k r e h1 h2
  exact⟨g1,g2,g3.mono (fun _ _=>trivial)⟩
 ·exact⟨hs.kind,hs.oh,hs.req,by have:=hs.os;exact⟨by show _≤v.os;omega,by show v.os<_;omega⟩,hs.on,by have:=hs.site;exact⟨by show _≤v.site;omega,by show v.site<_;omega⟩,by have:=hs.dK;exact⟨by show _≤v.dK;omega,by show v.dK<_;omega⟩,hs.ep,hs.dY.is.ew,hs.dY.is.dK⟩
 have h1:=PK hs.op hs.pl hs.parts;have h2:=Jn hs.dY.dB.2;have h3:=hs.dY.dB.1;have h4:=hs.dY.stamp.1;have h5:=hs.fr.1;show(V5 v.op v.parts).length+jY v.dY+8*v.fr.length≤_;unfold jY;omega
attribute [local go_sem] jg jf
def JF(X:iS)(l:List Pt)(k:Nat):Bool:=match l[k]? with
 |some p=>!p.may X
 |none=>false
theorem Vq(X:iS):∀l:List Pt,(aK l.length).any (JF X l)=l.any (fun p=>!p.may X):=fun l=>by
 rw[Bool.eq_iff_iff,bu,bu];constructor
 ·rintro⟨k,hk,h⟩
  unfold JF at h;cases e:l[k]? with
  |none=>rw[e] at h;cases h
  |some p=>rw[e] at h;exact⟨p,bJ e,h⟩
 ·rintro⟨p,hp,h⟩
  obtain⟨k,hk⟩:=List.getElem?_of_mem hp;refine⟨k,bB.2 (ay.1 hk).1,?_⟩;unfold JF;rw[hk];exact h
theorem O1(X:iS):(mD X).length≤1+100+X.Ik.length+(60+jY X.dY)+8*X.fr.length+100:=by
 have h1:=Qz X.dY;have h2:=jd X.fr;have hl:∀p:Pt,(p.put X).length≤16+X.Ik.length+(60+jY X.dY)+8*X.fr.length:=fun p=>by
  cases p with
  |client=>show(dI 8 _++dI 8 _).length≤_;rw[ah,dw,dw];omega
  |owner=>show(kY _ _).length≤_;rw[xO];omega
  |op=>show X.Ik.length≤_;omega
  |item=>show(nK _).length≤_;omega
  |site=>show(dI 1 _).length≤_;rw[dw];omega
  |place=>show(dI 8 _).length≤_;rw[dw];omega
  |epoch=>show(dI 8 _).length≤_;rw[dw];omega
  |stamp=>show(iK _).length≤_;omega
 unfold mD;rw[ah,dw];have h3:∀k:Nat,((fe k).flatMap (·.put X)).length≤16+9+1+16+X.Ik.length+(60+jY X.dY)+8*X.fr.length+16:=fun k=>by
  unfold fe;split<;>simp only[aE,List.flatMap_nil,ah,bA,Pt.put,dw,xO,h2]<;>omega
 have:=h3 X.kind;omega
def Vw(w:aj)(X:iS)(e:bH)(w':aj):Prop:=∃a n c,e=.returned (.tuple #[.slice a n c,.i (FD X)])∧iF w (vR X) a n c w'
theorem pG{w w':aj}{X:iS}{x:Int}(hx:x≠0)(h:FD X=x)(hb:cF w w'):Vw w X (.returned (.tuple #[.n,.i x])) w':=by
 have hd:vR X=[]:=by unfold vR;rw[if_neg (by rw[h];exact hx)]
 exact⟨none,0,0,by rw[h],by rw[hd];exact⟨rfl,JC _ _,hb⟩⟩
theorem td{P:bK}{ops:Array Oper}{rest:List Oper}{op:Oper}{a:Act}{w:aj}{Q:Exit→Act→aj→Prop}(hgd:Region.wanted op (yielded ops a.tmps)=true)(ty:TypeId)(x:Operand)(ho:op.op=.load ty x)
  (b o:Nat) (hx:a.eval x=.pointer (some ⟨b,o,none⟩)) (cs:List aD) (d:TypeDesc) (hc:w.rangeAt b o cs)
  (hu:P.underlying ty=some d) (hd:d.isRow=true) (hi:(P.info? ty).map (·.size)=some cs.length)
  (h:wpList P ops Q rest (a.put op.dst (.agg cs.toArray)) w):wpList P ops Q (op::rest) a w:=
 wpList_step fun K hK=>by rw[if_pos hgd];exact wp_load_mid ty x ho b o hx cs d hc hu hd hi (hK _ _ h)
theorem iF.below{w w1 w2:aj}{D:cP}{a:Option aR}{n c:Nat}(h:iF w D a n c w1)(hb:cF w1 w2):iF w D a n c w2:=⟨h.len,h.at_.below hb,h.bl.trans (hb.mono h.bl.size)⟩
theorem Py(w:aj)(X:iS)(o:cV)(i:dS)(L:List cZ)(fa:Option aR)(fc:Nat)(h:nV w X o i L fa)(hm:jz w o X.od):
  aQ prog 22 #[.agg (X.cells o i fa fc).toArray] w (Vw w X):=by
 obtain⟨w1,hw1,de,hs1,kH⟩:=dO w (X.cells o i fa fc) 42;have nN:Dw w1 w.heap.size X o i L fa fc:=⟨kH w1 (aa _ _),by omega,h.below de⟩;have wH:=h.num.kind;have hTL:(mD X).length≤60000000:=by have:=O1 X;have:=h.size;omega
 have y0:∀w',cF w1 w'→w'.cell? ⟨w.heap.size,0,none⟩=some (.b (X.kind:Int)):=fun w' hb=>(nN.below hb).cell 0 _ rfl
 have iY:=cE (cD nN (cD (hm.below de) hTL));have me:=cE (cD hw1 de);have alT:Hid ((prog.info? 42).map (·.size)=some (X.cells o i fa fc).length):=cE (by show _=some 23;kernel_rfl);have hmay:TB X=(kindOk X.kind&&!(aK (fe X.kind).length).any (JF X (fe X.kind))):=by unfold TB;rw[Vq]
 have HMY:=cE hmay;clear h hm hw1 de hs1 kH nN hmay hTL;obtain⟨k,hk⟩:=cG X.kind;have HK:=cE hk;rw[←hk] at wH y0;clear hk;go_enter func22,ntmps22
 go_upto_region 1 with fail
 rw[←me.out.1];refine rB fun wd hS=>?_
 refine tI 1 rfl hS ?_;refine tJ 2 rfl hS y0 ?_;simp only[cQ];refine cI 0 rfl ?_;refine(Eu _).mono ?_;rintro e w4 ⟨mb,rfl,hK,hmb,hb4⟩;have b4:cF w1 w4:=hS.trans (hb4.mono hS.size);refine⟨b4,?_⟩;simp only[cQ];obtain⟨v,sZ,qx,EB⟩:=hK.look k wH;refine O0 (S':=fun w'=>cF w4 w') (fun w' h=>b4.trans (h.mono b4.size)) _ _ _ _ ?_;have eM:=aa w4.heap.size w4;refine tJ 3 rfl eM sZ ?_;refine tI 4 rfl eM ?_;refine tI 5 rfl eM ?_;refine tI 6 rfl eM ?_;simp only[cQ];refine tI 7 rfl eM ?_;refine tI 8 rfl eM ?_;simp only[cQ];refine bg cK ?_ _;have GI:=cE (cD b4 (me.out.2.trans (b4.mono me.out.2.size)));have HV:=cE (cD qx EB);clear b4 eM hS sZ qx EB hK hmb hb4 y0 wH;cases Wj:kindOk k with
 |false=>
  have YZ:=cE Wj;clear Wj;go_wp2
  go_ret2
  refine pG cM ?_ GI.out.2;unfold FD;rw[HMY.out,←HK.out,YZ.out];rfl
 |true=>
 obtain⟨g,rfl,hg,hrow⟩:=HV.out.1 Wj;obtain⟨l,hl⟩:=cG (fe k);rw[←hl] at hrow⊢;have J6:l.length≤4:=by rw[hl];exact ur k
 obtain⟨bad,qy⟩:=cG ((aK l.length).any (JF X l));have Wx:=cE (Rk w4 (a:=some ⟨g,0,none⟩) (n:=l.length) (c:=l.length) (cs:=l.map Pt.cells) (fun j c hj=>by
  simp only[aF,aH] at hj;obtain⟨p,hp,rfl⟩:=hj;exact⟨g,0,rfl,hg.2,by rw[aM];exact hrow j p hp,Pt.ki p⟩) (by rw[aU]) cL (.p w.heap.size) (JF X l) (fun W hW j c hj=>by
  simp only[aF,aH] at hj;obtain⟨p,hp,rfl⟩:=hj;have hb:JF X l j=!p.may X:=by unfold JF;rw[hp]
  rw[hb];exact Px w1 w.heap.size X (iY.out.1.ajH iY.out.2.1) p W (GI.out.1.trans (hW.mono GI.out.1.size))))
 rw[←qy] at Wx;have YZ:=cE (cD Wj (cD hl qy));have Dr:=cE (cD hg hrow);obtain⟨N,hN⟩:=cG l.length;rw[←hN] at Wx⊢;have HN:=cE hN;clear Wj hl J6 qy hg hrow hN;go_wp2_with fail
 refine Wx.out.mono ?_;rintro e w5 ⟨rfl,jE⟩;have VP:=cE (cD (GI.out.1.trans (jE.mono GI.out.1.size)) (GI.out.2.trans (jE.mono GI.out.2.size)));have HRP:Hid (nT w5 wd.heap.size (.slice (some ⟨g,0,none⟩) N N) (fe X.kind)):=cE (by
  rw[←HK.out,←YZ.out.2.1,HN.out];exact nT.below ⟨g,rfl,Dr.out.1,Dr.out.2⟩ jE)
 clear jE;cases bad with
 |true=>
  go_wp2
  go_ret2
  refine pG cM ?_ VP.out.2;unfold FD;rw[HMY.out,←HK.out,YZ.out.1,←YZ.out.2.1,←YZ.out.2.2];rfl
 |false=>
 have HT:=cE (Sy w5 w.heap.size X (by have:=iY.out.1.V8.num.kind;exact this) ((iY.out.1.below VP.out.1).cell 0 _ rfl) _ HRP.out ((iY.out.1.below VP.out.1).ajB) (by have:=iY.out.2.2;omega));have HMT:Hid (TB X=true):=cE (by rw[HMY.out,←HK.out,YZ.out.1,←YZ.out.2.1,←YZ.out.2.2];rfl);go_wp2_with fail
 refine HT.out.mono ?_;rintro e w6 ⟨a6,n6,c6,rfl,P6⟩;have hn6:=P6.len;subst hn6;have HP6:=cE (P6.trans VP.out.2);have OJ:=cE (Ht w6 a6 c6 _ (mD X) P6.pN.at_ (by have:=iY.out.2.2;omega));have VO:=cE (cD (VP.out.1.trans (P6.bl.mono VP.out.1.size)) (VP.out.2.trans (P6.bl.mono VP.out.2.size)));clear P6 HT Wx HRP;obtain⟨D,hD⟩:=cG (mD X);rw[←hD] at OJ HP6⊢;have hDl:D.length≤60000000:=by rw[hD];exact iY.out.2.2
 have HDD:=cE (cD hD hDl);clear hD hDl;go_wp2_with fail
 refine OJ.out.mono ?_;rintro e w7 ⟨o',i',R6,UL,L',E',u,rfl,hd,mL⟩;obtain⟨cs,hcs⟩:=cG ((ey D).cells o' i' R6 UL);rw[←hcs];have JW:Hid (cs.length=23):=cE (by rw[hcs];simp[fR.cells,gF]);have gu:Hid (cs.toArray.all (·.oneCell')=true):=cE (by rw[hcs];simp[fR.cells,gF,aW]);have HCS:=cE hcs;have QN:cs.toArray.size=23:=by rw[aA,JW.out]
 clear hcs;obtain⟨wz,LH,hbz,hsz,TX⟩:=dO w7 [.B,.U,.U,.I,.U,.B,.z,.n,.I,.F,.F,.n,.I,.V,.I,.V,.n,.n,.U,.I,.I,.V,.n] 42;have hbk:wz.heap[w7.heap.size]?=some (.cells #[.B,.U,.U,.I,.U,.B,.z,.n,.I,.F,.F,.n,.I,.V,.I,.V,.n,.n,.U,.I,.I,.V,.n] 42 (0,0)):=by rw[LH];exact aT w7 _
 have HT:Hid (wz.there w7.heap.size 0 cs.toArray.size):=cE (by rw[QN];exact dR hbk 0 23 cN);have HE:Hid (cH 42 cs.length):=cE (by rw[JW.out];exact cJ);have HE2:Hid (cH 42 cs.toArray.size):=cE (by rw[QN];exact cJ);have Ks:=ic wz w7.heap.size 0 cs.toArray.toList;have HR9:Hid ((wz.setCells w7.heap.size 0 cs.toArray.toList).rangeAt w7.heap.size 0 cs):=cE (an _ _ _ _ (by have h:=HT.out;rw[QN] at h;rw[←JW.out] at h;exact h));have BS:cF w7 (wz.setCells w7.heap.size 0 cs.toArray.toList):=hbz.trans (Ks.below hbz.size (fun b e=>by have e:b=w7.heap.size:=e;omega));have ON:=cE (cD (VO.out.1.trans ((mL.trans (BS.mono mL.size)).mono VO.out.1.size)) (VO.out.2.trans ((mL.trans (BS.mono mL.size)).mono VO.out.2.size)));have HP9:=cE (HP6.out.below (mL.trans (BS.mono mL.size)));have HD9:=cE (hd.kept (dm (S:=fun _=>False) BS) (fun b hb e=>e));have HX9:=cE (iY.out.1.below ON.out.1);have Sa:=cE LH;clear LH hbz hsz TX hbk BS Ks hd mL QN;generalize nL:wz.setCells w7.heap.size 0 cs.toArray.toList=w9 at HR9 ON HD9 HX9 HP9;have VB:=cE nL;clear nL;cases hro:mh D with
 |false=>
  go_wp2_with (first|(rw[←Sa.out];refine aC rfl 42 (.tmp 7) (.tmp 28) rfl w7.heap.size 0 cs.toArray rfl rfl HT.out HE2.out gu.out ?_;rw[VB.out])|fail)
  go_ret2
  refine pG cM ?_ ON.out.2;unfold FD;rw[if_neg (by rw[HMT.out];decide),←HDD.out.1,if_pos (.inl hro)]
 |true=>
 obtain⟨sm,J4⟩:=cG (Hi X (ey D).x);have VF:=cE (cD hro J4);have HS9:=cE (AT w9 X (ey D).x o o' i i' L E' fa R6 fc UL HX9.out.V8 (HD9.out.pN (ox hro)));have ZU:(ey D).x.cells o' i' R6 UL=cs:=by rw[HCS.out];rfl
 rw[ZU,←J4] at HS9;clear hro J4 ZU;go_wp2_with (first
  |(rw[←Sa.out];refine aC rfl 42 (.tmp 7) (.tmp 28) rfl w7.heap.size 0 cs.toArray rfl rfl HT.out HE2.out gu.out ?_;rw[VB.out])
  |(refine td cO 42 (.tmp 1) rfl w.heap.size 0 rfl (X.cells o i fa fc) _ HX9.out.rng underlying42 rfl alT.out ?_)
  |(refine td cO 42 (.tmp 7) rfl w7.heap.size 0 rfl cs _ HR9.out underlying42 rfl HE.out ?_)
  |fail)
 refine HS9.out.mono ?_;rintro e kq ⟨rfl,s0⟩;have ac8:=cE (cD (ON.out.2.trans (s0.mono ON.out.2.size)) (HP9.out.below s0));clear s0;cases sm with
 |false=>
  go_wp2
  go_ret2
  refine pG cM ?_ ac8.out.1;unfold FD;rw[if_neg (by rw[HMT.out];decide),←HDD.out.1,if_pos (.inr VF.out.2.symm)]
 |true=>
 have hpt:FD X=if 4096<D.length then 3 else 0:=by
  unfold FD;rw[if_neg (by rw[HMT.out];decide),←HDD.out.1,if_neg (by rw[VF.out.1,←VF.out.2];decide)]
 have YW:=cE hpt;clear hpt;obtain⟨n,hn⟩:=cG D.length;have JU:=cE hn;have hnl:n≤60000000:=by rw[hn];exact HDD.out.2
 rw[←hn];clear hn;by_cases hbig:4096<n
 ·have wK:decide ((4096:Int)<(n:Int))=true:=by simp;omega
  go_wp2
  go_ret2
  refine pG cM ?_ ac8.out.1;rw[YW.out,if_pos (by rw[←JU.out];exact hbig)]
 have wK:decide ((4096:Int)<(n:Int))=false:=by simp;omega
 go_wp2
 go_ret2
 have hz:FD X=0:=by rw[YW.out,if_neg (by rw[←JU.out];exact hbig)]
 refine⟨a6,n,c6,by rw[hz];rfl,?_⟩;have hd:vR X=D:=by unfold vR;rw[if_pos hz,←HDD.out.1]
 rw[hd,JU.out];exact ac8.out.2
theorem NL:∀{A B:List Nat},A.length=B.length→(∀(i:Nat) x y,A[i]?=some x→B[i]?=some y→x≤y)→gq A B=true
 |[],[],_,_=>rfl
 |[],_::_,h,_=>by simp at h
 |_::_,[],h,_=>by simp at h
 |x::A,y::B,h,k=>by
  simp only[gq,bz,decide_eq_true_eq];exact⟨k 0 x y rfl rfl,NL (by simpa using h) (fun i a b ha hb=>k (i+1) a b ha hb)⟩
theorem IT:∀{A B:List Nat} {i x y:Nat},A[i]?=some x→B[i]?=some y→y<x→gq A B=false
 |[],_,i,x,y,h,_,_=>by simp at h
 |_::_,[],i,x,y,_,h,_=>by simp at h
 |a::A,b::B,0,x,y,h,k,l=>by
  simp at h k;subst h k;simp only[gq,bh,decide_eq_false_iff_not];exact .inl cL
 |a::A,b::B,i+1,x,y,h,k,l=>by
  simp only[gq,bh];exact .inr (IT (by simpa using h) (by simpa using k) l)
theorem NM:∀{A B:List Nat},A.length≠B.length→gq A B=false
 |[],[],h=>absurd rfl h
 |[],_::_,_=>rfl
 |_::_,[],_=>rfl
 |x::A,y::B,h=>by
  simp only[gq,bh];exact .inr (NM (by simpa using h))
def MU(V1 V2:List Nat)(w:aj)(e:bH)(w':aj):Prop:=e=.returned (.bool (gq V1 V2))∧cF w w'
theorem Eg(w:aj)(a1 a2:Option aR)(c1 c2:Nat)(V1 V2:List Nat)(lo1 Qg:Nat→Prop)(hl1:V1.length≤1000)(h1:dr w lo1 a1 V1)(h2:dr w Qg a2 V2):
  aQ prog 108 #[.slice a1 V1.length c1,.slice a2 V2.length c2] w (MU V1 V2 w):=by
 obtain⟨n1,Aq⟩:∃n,n=V1.length:=⟨_,rfl⟩;obtain⟨n2,hn2⟩:∃n,n=V2.length:=⟨_,rfl⟩;have HN:=cE (cD Aq (cD hn2 (cD h1 h2)));have aqg:n1≤1000:=by omega
 rw[←Aq,←hn2];clear Aq hn2 h1 h2 hl1;by_cases hne:n1=n2
 ·subst hne
  go_enter func108,ntmps108
  go_wp2_with fail
  go_loopw [5] (fun iv wr=>∃k:Nat,k≤n1∧iv=.i k∧Hid (cF w wr∧∀(i:Nat) x y,i<k→V1[i]?=some x→V2[i]?=some y→x≤y)) (fun iv _=>n1 - (intOf iv).toNat)
  case atStart=>exact⟨0,by omega,rfl,cE ⟨aa _ _,fun i x y h=>absurd h (Nat.not_lt_zero _)⟩⟩
  obtain⟨k,hk,rfl,HS⟩:=hrel;by_cases hlt:k<n1
  ·obtain⟨x,hx⟩:∃x,V1[k]?=some x:=⟨_,ag (by rw[←HN.out.1];exact hlt)⟩
   obtain⟨y,hy⟩:∃y,V2[k]?=some y:=⟨_,ag (by rw[←HN.out.2.1];exact hlt)⟩;obtain⟨b1,o1,rfl,_,de,hc1⟩:=HN.out.2.2.1 k x hx;obtain⟨b2,o2,rfl,_,dz,hc2⟩:=HN.out.2.2.2 k y hy;have y1:=(HS.out.1.cell (p:=⟨b1,o1+k,none⟩) de).trans hc1;have y2:=(HS.out.1.cell (p:=⟨b2,o2+k,none⟩) dz).trans hc2;have HXY:=cE (cD hx hy);clear hx hy de hc1 dz hc2;have Y8:decide ((k:Int)<(n1:Int))=true:=by simp;omega
   by_cases hyx:y<x
   ·have t1:decide ((y:Int)<(x:Int))=true:=by simp;omega
    have HYX:=cE hyx;clear hyx;go_wp2_with fail
    go_quiet (fail)
    go_wp2_with fail
    go_ret
    exact⟨by rw[IT HXY.out.1 HXY.out.2 HYX.out];rfl,(HS.out.1.trans (((Kept.refl (fun _=>False) wr).drewN nq).below HS.out.1.size (fun k e=>e.elim)))⟩
   have t1:decide ((y:Int)<(x:Int))=false:=by simp;omega
   have HYX:=cE hyx;clear hyx;go_wp2_with fail
   go_quiet (fail)
   go_wp2_with fail
   go_roundw
   case rel=>
    refine⟨k+1,by omega,by go_num,cE ⟨(HS.out.1.trans (((Kept.refl (fun _=>False) wr).drewN nq).below HS.out.1.size (fun k e=>e.elim))),fun i u v hi hu hv=>?_⟩⟩;rcases Nat.lt_or_ge i k with h|h
    ·exact HS.out.2 i u v h hu hv
    obtain rfl:i=k:=by omega
    rw[HXY.out.1] at hu;rw[HXY.out.2] at hv;cases hu;cases hv;have:=HYX.out;omega
   case measure=>simp[intOf];omega
  obtain rfl:k=n1:=by omega
  go_wp2_with fail
  go_ret
  refine⟨by rw[NL (by rw[←HN.out.1,←HN.out.2.1]) (fun i x y hx hy=>HS.out.2 i x y (by rw[HN.out.1];exact(ay.1 hx).1) hx hy)];rfl,HS.out.1⟩
 have HL:Hid (gq V1 V2=false):=cE (NM (by rw[←HN.out.1,←HN.out.2.1];exact hne));go_enter func108,ntmps108
 go_wp2_with fail
 go_ret
 exact⟨by rw[HL.out];rfl,aa _ _⟩
theorem AU(w:aj)(a1 a2:Option aR)(c1 c2:Nat)(V1 V2:List Nat)(lo1 Qg:Nat→Prop)(hl1:V1.length≤1000)(hl2:V2.length≤1000)(h1:dr w lo1 a1 V1)(h2:dr w Qg a2 V2):
  aQ prog 48 #[.slice a1 V1.length c1,.slice a2 V2.length c2] w fun e w'=>e=.returned (.bool (gq V1 V2&&gq V2 V1))∧cF w w':=by
 have HA:=cE (Eg w a1 a2 c1 c2 V1 V2 lo1 Qg hl1 h1 h2);have HB:Hid (∀W,cF w W→aQ prog 108 #[.slice a2 V2.length c2,.slice a1 V1.length c1] W (MU V2 V1 W)):=cE (fun W hW=>Eg W a2 a1 c2 c1 V2 V1 Qg lo1 hl2 (h2.below hW) (h1.below hW));obtain⟨n1,Aq⟩:∃n,n=V1.length:=⟨_,rfl⟩;obtain⟨n2,hn2⟩:∃n,n=V2.length:=⟨_,rfl⟩;obtain⟨p,hp⟩:=cG (gq V1 V2);obtain⟨q,hq⟩:=cG (gq V2 V1);rw[←Aq,←hn2] at HA HB⊢;unfold MU at HA HB;rw[←hp] at HA⊢;rw[←hq] at HB⊢;clear h1 h2 Aq hn2 hp hq;go_enter func48,ntmps48
 go_wp2_with fail
 refine HA.out.mono ?_;rintro e w1 ⟨rfl,de⟩;have jk:=cE de;clear de;cases p with
 |false=>
  go_wp2_with fail
  go_ret
  exact⟨rfl,jk.out⟩
 |true=>
 go_wp2_with fail
 refine(HB.out w1 jk.out).mono ?_;rintro e w2 ⟨rfl,dz⟩;have iG:=cE (jk.out.trans (dz.mono jk.out.size));clear dz;go_wp2_with fail
 go_ret
 exact⟨by simp,iG.out⟩
end
