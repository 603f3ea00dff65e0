/- Part 30. -/
import Derived.Test.YtdpaejbaoefdjaaGreatDoorG29
import Derived.Test.YtdpaejbaoefdjaaGreatDoorG19
open List renaming append_assoc → aa,length_append → ag,getElem?_eq_getElem → aj,size_toArray → ay,flatMap_cons → aA,getElem?_eq_some_iff → aB,getElem?_map → aG,mem_cons_self → aJ,range → aL,mem_cons_of_mem → aM,append_nil → aP,getElem?_eq_none → aQ,length_map → aT,foldl_cons → aU,length_cons → aZ,getElem_mem → bq,any_eq_true → bu,length_nil → bz,mem_range → bA,take_of_length_le → bF,mem_of_getElem? → bG,take_add_one → bK,ext_getElem? → bL
open Go.RowKit.Below renaming refl → af,heap_alloc → aC
open Go renaming World → ah,wpList_store_mid → aD,Value → aF,lt_of_block → aO,heap_alloc_new → aR,Addr → aS,Calls → aV,wpList_load_mid → aX,wpAnyH_done → bg,bodyPost_ret → bh,Program → bJ,Ending → bM
open Go.World renaming rangeAt_setCells_same → an
open Nat renaming le_trans → aq,le_refl → aE,lt_of_lt_of_le → aK,zero_add → aN,lt_of_le_of_lt → aY
open Go.Proofs renaming enters_of → au
open Go.RowKit renaming wrap64 → aH,wrap64 → bB
open Option renaming map_eq_some_iff → aI
open Go.Value renaming oneCell' → aW,int → bC
open Bool renaming false_eq_true → bH
namespace Go.Proofs.YtdpaejbaoefdjaaGreatDoor
open Go.Proofs.Tryz
set_option maxRecDepth 100000
set_option maxHeartbeats 64000000
set_option linter.unusedVariables false
set_option linter.unusedSimpArgs false
def oG{α:Type}(P:α→Prop)(f:α→cO):Prop:=∀x y s t,P x→P y→f x++s=f y++t→x=y∧s=t
theorem mS(n:Nat):oG (fun v=>v<256 ^ n) (dw n):=fun x y s t hx hy h=>by
 obtain⟨h1,h2⟩:=List.append_inj h (by rw[dD,dD]);refine⟨?_,h2⟩;have:=congrArg mo h1
 rwa [wV hx,wV hy] at this
theorem fZ:oG (fun v=>v<18446744073709551616) (dw 8):=fun x y s t hx hy=>mS 8 x y s t hx hy
theorem Si{x y:Int}(hx:-9223372036854775808≤x∧x<9223372036854775808)(hy:-9223372036854775808≤y∧y<9223372036854775808)(h:lu x=lu y):x=y:=by
 unfold lu at h;omega
def nR(x:Int):Prop:=-9223372036854775808≤x∧x<9223372036854775808
theorem ia:oG nR (fun v=>dw 8 (lu v)):=fun x y s t hx hy h=>by
 obtain⟨h1,h2⟩:=fZ _ _ s t (zM x) (zM y) h;exact⟨Si hx hy h1,h2⟩
theorem sg:oG wD (fun v=>dw 8 v.toNat):=fun x y s t hx hy h=>by
 obtain⟨a,rfl,ha⟩:=hx.nat;obtain⟨b,rfl,hb⟩:=hy.nat;obtain⟨h1,h2⟩:=fZ _ _ s t (show(a:Int).toNat<18446744073709551616 by omega) (show(b:Int).toNat<18446744073709551616 by omega) h;exact⟨by omega,h2⟩
theorem wX:oG Ji (fun v=>dw 8 v.toNat):=fun x y s t hx hy h=>by
 obtain⟨a,rfl,ha⟩:=hx.nat;obtain⟨b,rfl,hb⟩:=hy.nat;obtain⟨h1,h2⟩:=fZ _ _ s t (show(a:Int).toNat<18446744073709551616 by omega) (show(b:Int).toNat<18446744073709551616 by omega) h;exact⟨by omega,h2⟩
theorem uk:oG (fun _=>True) (fun g=>dw 1 (nL g)):=fun x y s t _ _ h=>by
 have hb:∀g,nL g<256 ^ 1:=fun g=>by unfold nL;split<;>decide
 obtain⟨h1,h2⟩:=mS 1 _ _ s t (hb x) (hb y) h;refine⟨?_,h2⟩;cases x<;>cases y<;>simp[nL] at h1⊢
def IsT(D:cO):Prop:=D.length<4294967296
theorem pX:oG IsT kq:=fun x y s t hx hy h=>by
 unfold kq at h;rw[aa,aa] at h;obtain⟨h1,h2⟩:=mS 4 _ _ _ _ hx hy h;exact List.append_inj h2 h1
theorem Bi{α β γ:Type}{P:α→Prop}{Q:β→Prop}{f:α→List γ}{g:β→List γ}(H:∀x y s t,P x→Q y→f x++s=g y++t→f x=g y∧s=t):∀(L:List α) (M:List β) (s t:List γ),L.length=M.length→(∀x∈L,P x)→(∀y∈M,Q y)→L.flatMap f++s=M.flatMap g++t→(∀(k:Nat) x y,L[k]?=some x→M[k]?=some y→f x=g y)∧s=t
 |[],[],s,t,_,_,_,h=>⟨fun k x y hx=>by simp at hx,by simpa using h⟩
 |[],_::_,_,_,h,_,_,_=>by simp at h
 |_::_,[],_,_,h,_,_,_=>by simp at h
 |x::L,y::M,s,t,hl,hp,hq,h=>by
  rw[aA,aA,aa,aa] at h;obtain⟨h1,h2⟩:=H x y _ _ (hp x (aJ ..)) (hq y (aJ ..)) h;obtain⟨h3,h4⟩:=Bi H L M s t (by simpa using hl) (fun z hz=>hp z (aM _ hz)) (fun z hz=>hq z (aM _ hz)) h2;refine⟨fun k u v hu hv=>?_,h4⟩;cases k with
  |zero=>
   simp at hu hv;subst hu hv;exact h1
  |succ k=>
   simp at hu hv;exact h3 k u v hu hv
theorem Bj{α:Type}{P:α→Prop}{f:α→cO}(H:oG P f)(L M:List α)(s t:cO)(hl:L.length=M.length)(hL:∀x∈L,P x)(hM:∀x∈M,P x)(h:L.flatMap f++s=M.flatMap f++t):L=M∧s=t:=by
 obtain⟨h1,h2⟩:=Bi (P:=P) (Q:=P) (f:=f) (g:=f) (fun x y s t hx hy h=>by obtain⟨e,Pk⟩:=H x y s t hx hy h;exact⟨by rw[e],Pk⟩) L M s t hl hL hM h;refine⟨bL fun k=>?_,h2⟩;by_cases hk:k<L.length
 ·have e1:=aj hk
  have e2:=aj (show k<M.length by omega);rw[e1,e2];have h3:=h1 k _ _ e1 e2;obtain⟨h4,_⟩:=H _ _ [] [] (hL _ (bq hk)) (hM _ (bq (show k<M.length by omega))) (by rw[h3]);rw[h4]
 rw[aQ cK,aQ cK]
def IsS(V:List Nat):Prop:=V.length<18446744073709551616∧zD V
theorem qQ:oG IsS gw:=fun x y s t hx hy h=>by
 unfold gw at h;rw[aa,aa] at h;obtain⟨h1,h2⟩:=fZ _ _ _ _ hx.1 hy.1 h;exact Bj fZ x y s t h1 hx.2 hy.2 h2
theorem JN{s n s' n':Int}{a b:cO}(h1:0≤s∧s<256)(h2:wD n)(h3:0≤s'∧s'<256)(h4:wD n')(h:iO s n++a=iO s' n'++b):s=s'∧n=n'∧a=b:=by
 unfold iO at h;rw[aa,aa] at h;obtain⟨g1,g2⟩:=mS 1 _ _ _ _ (show(s % 256).toNat<256 ^ 1 by omega) (show(s' % 256).toNat<256 ^ 1 by omega) h;obtain⟨g3,g4⟩:=sg _ _ _ _ h2 h4 g2;exact⟨by omega,g3,g4⟩
structure IsN(d:Nd):Prop where
 data:IsT d.data
 num:tH d.num
 os:0≤d.num.os∧d.num.os<256
theorem J8:oG IsN pg:=fun x y s t hx hy h=>by
 obtain⟨D,q⟩:=x;obtain⟨E,p⟩:=y;unfold pg at h;simp only[aa] at h;obtain⟨g1,Pk⟩:=pX _ _ _ _ hx.data hy.data h;obtain⟨g2,KF⟩:=sg _ _ _ _ hx.num.gW hy.num.gW Pk;obtain⟨g3,SS⟩:=sg _ _ _ _ hx.num.BV hy.num.BV KF;obtain⟨g4,h3x⟩:=sg _ _ _ _ hx.num.next hy.num.next SS;obtain⟨g5,g6,h4x⟩:=JN hx.os hx.num.on hy.os hy.num.on h3x;obtain⟨g7,h5x⟩:=wX _ _ _ _ hx.num.made hy.num.made h4x;obtain⟨g8,h6x⟩:=wX _ _ _ _ hx.num.CI hy.num.CI h5x;obtain⟨g9,h7x⟩:=wX _ _ _ _ hx.num.Ch hy.num.Ch h6x;obtain⟨a1,a2,a3,a4,a5,a6,a7,a8⟩:=q;obtain⟨b1,b2,b3,b4,b5,b6,b7,b8⟩:=p;dsimp only at g1 g2 g3 g4 g5 g6 g7 g8 g9;subst g1 g2 g3 g4 g5 g6 g7 g8 g9;exact⟨rfl,h7x⟩
structure IsE(e:gm):Prop where
 cW:IsT e.cW
 node:IsN e.node
 gone:e.gone=true→e.node=iQ
theorem PA:oG IsE mc:=fun x y s t hx hy h=>by
 obtain⟨p,g,d⟩:=x;obtain⟨p',g',d'⟩:=y;unfold mc at h;simp only[aa] at h;obtain⟨g1,Pk⟩:=pX _ _ _ _ hx.cW hy.cW h;obtain⟨g2,KF⟩:=uk _ _ _ _ trivial trivial Pk;dsimp only at g1 g2 KF;subst g1 g2;cases g with
 |true=>
  rw[show d=iQ from hx.gone rfl,show d'=iQ from hy.gone rfl];exact⟨rfl,by simpa using KF⟩
 |false=>
  simp only[bH,if_false] at KF;obtain⟨g3,SS⟩:=J8 _ _ _ _ hx.node hy.node KF;dsimp only at g3;subst g3;exact⟨rfl,SS⟩
structure IsM(x:fW):Prop where
 ew:nR x.ew
 acU:0≤x.ew∧x.ew<256
 seq:x.seq<18446744073709551616
 dO:nR x.dO
 ep:x.ep<18446744073709551616
 de:IsS x.de
 dF:x.dF.length<18446744073709551616
 FV:∀e∈x.dF,IsE e
 cl:x.cl<4294967296
theorem KX:oG (fun E:List gm=>E.length<18446744073709551616∧∀e∈E,IsE e) tD:=fun x y s t hx hy h=>by
 unfold tD at h;rw[aa,aa] at h;obtain⟨h1,h2⟩:=fZ _ _ _ _ hx.1 hy.1 h;exact Bj PA x y s t h1 hx.2 hy.2 h2
theorem Kj:oG IsM jl:=fun x y s t hx hy h=>by
 unfold jl at h;simp only[aa] at h;obtain⟨g1,Pk⟩:=mS 1 _ _ _ _ (show(x.ew % 256).toNat<256 ^ 1 by omega) (show(y.ew % 256).toNat<256 ^ 1 by omega) h;obtain⟨g2,KF⟩:=fZ _ _ _ _ hx.seq hy.seq Pk;obtain⟨g3,SS⟩:=ia _ _ _ _ hx.dO hy.dO KF;obtain⟨g4,h3x⟩:=fZ _ _ _ _ hx.ep hy.ep SS;obtain⟨g5,h4x⟩:=qQ _ _ _ _ hx.de hy.de h3x;obtain⟨g6,h5x⟩:=KX _ _ _ _ ⟨hx.dF,hx.FV⟩ ⟨hy.dF,hy.FV⟩ h4x;obtain⟨g7,h6x⟩:=fZ _ _ _ _ (show x.cl<18446744073709551616 by have:=hx.cl;omega) (show y.cl<18446744073709551616 by have:=hy.cl;omega) h5x;have g0:x.ew=y.ew:=by have:=hx.acU;have:=hy.acU;omega
 obtain⟨a1,a2,a3,a4,a5,a6,a7⟩:=x;obtain⟨b1,b2,b3,b4,b5,b6,b7⟩:=y;dsimp only at g0 g2 g3 g4 g5 g6 g7;subst g0 g2 g3 g4 g5 g6 g7;exact⟨rfl,h6x⟩
structure IsO(o:fh):Prop where
 kind:0≤o.kind∧o.kind<256
 cW:IsT o.cW
 data:IsT o.data
 gW:nR o.gW
theorem KA:oG IsO opHead:=fun x y s t hx hy h=>by
 unfold opHead at h;simp only[aa] at h;obtain⟨g1,Pk⟩:=mS 1 _ _ _ _ (show x.kind.toNat<256 ^ 1 by have:=hx.kind;omega) (show y.kind.toNat<256 ^ 1 by have:=hy.kind;omega) h;obtain⟨g2,KF⟩:=pX _ _ _ _ hx.cW hy.cW Pk;obtain⟨g3,SS⟩:=pX _ _ _ _ hx.data hy.data KF;obtain⟨g4,h3x⟩:=ia _ _ _ _ hx.gW hy.gW SS;obtain⟨g5,h4x⟩:=uk _ _ _ _ trivial trivial h3x;obtain⟨g6,h5x⟩:=uk _ _ _ _ trivial trivial h4x;have g0:x.kind=y.kind:=by have:=hx.kind;have:=hy.kind;omega
 obtain⟨a1,a2,a3,a4,a5,a6⟩:=x;obtain⟨b1,b2,b3,b4,b5,b6⟩:=y;dsimp only at g0 g2 g3 g4 g5 g6;subst g0 g2 g3 g4 g5 g6;exact⟨rfl,h5x⟩
def rS:Nat→cO→Prop
 |0,_=>False
 |n+1,D=>∃(o:fh) (Ds:List cO),IsO o∧D=opHead o++(dw 8 Ds.length++Ds.flatten)∧Ds.length<18446744073709551616∧∀d∈Ds,rS n d
theorem M4{α:Type}(L:List (List α)):L.flatten=L.flatMap id:=by simp[List.flatMap]
theorem BC:∀(n m:Nat) (D E s t:cO),rS n D→rS m E→D++s=E++t→D=E∧s=t
 |0,_,_,_,_,_,h,_,_=>h.elim
 |_+1,0,_,_,_,_,_,h,_=>h.elim
 |n+1,m+1,D,E,s,t,hD,hE,h=>by
  obtain⟨o,Ds,h1,rfl,h3,h4⟩:=hD;obtain⟨o',Es,g1,rfl,g3,g4⟩:=hE;simp only[aa] at h;obtain⟨e1,Pk⟩:=KA _ _ _ _ h1 g1 h;obtain⟨e2,KF⟩:=fZ _ _ _ _ h3 g3 Pk;rw[M4,M4] at KF;obtain⟨e3,SS⟩:=Bi (P:=rS n) (Q:=rS m) (f:=id) (g:=id) (fun x y s t hx hy h=>BC n m x y s t hx hy h) Ds Es s t e2 h4 g4 KF;subst e1;have:Ds=Es:=bL fun k=>by
   by_cases hk:k<Ds.length
   ·have q1:=aj hk
    have q2:=aj (show k<Es.length by omega);rw[q1,q2];exact congrArg some (e3 k _ _ q1 q2)
   ·rw[aQ cK,aQ cK]
  subst this;exact⟨rfl,SS⟩
theorem GY{α:Type}(f:α→cO)(ps:List α):(ps.map f).flatten=ps.flatMap f:=by simp[List.flatMap]
theorem RA{o:fh}{ps:List fh}(ho:IsO o)(hl:ps.length<18446744073709551616)(hp:∀p∈ps,IsO p):rS 2 (XC o ps):=by
 refine⟨o,ps.map (fun p=>opHead p++(dw 8 0++[])),ho,?_,by rw[aT];exact hl,fun d hd=>?_⟩
 ·rw[aT,GY]
  rfl
 obtain⟨p,hp',rfl⟩:=List.mem_map.1 hd;exact⟨p,[],hp p hp',rfl,by decide,fun d hd=>by cases hd⟩
structure IsX(x:jA):Prop where
 kind:x.kind<256
 oE:x.oE<4294967296
 req:x.req<4294967296
 os:nR x.os
 on:x.on<4294967296
 op:∃n,rS n x.FP
 dy:nR x.dy
 dO:nR x.dO
 ep:x.ep<18446744073709551616
 fr:IsS x.fr
 eu:x.kind=4→IsM x.eu
 ew:nR x.eu.ew
 OZ:nR x.eu.dO
 seq:x.eu.seq<18446744073709551616
 iep:x.eu.ep<18446744073709551616
 de:IsS x.eu.de
 dF:x.eu.dF.length<18446744073709551616
 cl:x.eu.cl<4294967296
structure Is(x:jA)(v:fV):Prop where
 kind:x.kind=v.kind
 oE:x.oE=v.oE
 req:x.req=v.req
 os:x.os=v.os
 on:x.on=v.on
 op:x.FP=XC v.op v.parts
 eu:x.eu=v.eu
 dy:x.dy=v.dy
 dO:x.dO=v.dO
 ep:x.ep=v.ep
 fr:x.fr=v.fr
theorem Wb{X V:fW}(h1:X.ew=V.ew)(h2:X.seq=V.seq)(h3:X.dO=V.dO)(h4:X.ep=V.ep)(h5:X.de=V.de)(h6:X.dF=V.dF)(h7:X.cl=V.cl):X=V:=by
 cases X;cases V;dsimp only at*;subst h1 h2 h3 h4 h5 h6 h7;rfl
theorem tO{x:Nat}:nR (aH x):=by unfold nR aH;omega
theorem Jr{x y:Nat}(hx:x<18446744073709551616)(hy:y<18446744073709551616)(h:aH x=aH y):x=y:=by unfold aH at h;omega
theorem FY{x:jA}{v:fV}(hx:IsX x)(hv:IsX v.x)(h0:v.kind≠4→v.eu=mY)(h:pW x=pW v.x):Is x v:=by
 unfold pW qN at h;simp only[aA,List.flatMap_nil,aP,aa] at h;have GR:∀{n:Nat},n<9223372036854775808→nR (n:Int):=fun {n} h=>by unfold nR;omega
 obtain⟨g1,Pk⟩:=ia _ _ _ _ (GR (by have:=hx.kind;omega)) (GR (by have:=hv.kind;omega)) h;obtain⟨g2,KF⟩:=ia _ _ _ _ (GR (by have:=hx.oE;omega)) (GR (by have:=hv.oE;omega)) Pk;obtain⟨g3,SS⟩:=ia _ _ _ _ (GR (by have:=hx.req;omega)) (GR (by have:=hv.req;omega)) KF;obtain⟨g4,h3x⟩:=ia _ _ _ _ hx.os hv.os SS;obtain⟨g5,h4x⟩:=ia _ _ _ _ (GR (by have:=hx.on;omega)) (GR (by have:=hv.on;omega)) h3x;obtain⟨g6,h5x⟩:=ia _ _ _ _ hx.dy hv.dy h4x;obtain⟨g7,h6x⟩:=ia _ _ _ _ hx.dO hv.dO h5x;obtain⟨g8,h7x⟩:=ia _ _ _ _ tO tO h6x;obtain⟨g9,h8x⟩:=ia _ _ _ _ hx.ew hv.ew h7x;obtain⟨g10,h9x⟩:=ia _ _ _ _ hx.OZ hv.OZ h8x;obtain⟨n,hn⟩:=hx.op;obtain⟨m,hm⟩:=hv.op;obtain⟨g11,aju⟩:=BC n m _ _ _ _ hn hm h9x;obtain⟨g12,aeK⟩:=qQ _ _ _ _ hx.fr hv.fr aju;have gk:x.kind=v.kind:=by have:(x.kind:Int)=(v.kind:Int):=g1;omega
 have gi:x.eu=v.eu:=by
  by_cases hk:v.kind=4
  ·exact(Kj _ _ [] [] (hx.eu (gk.trans hk)) (hv.eu hk) (by rw[aP,aP];exact aeK)).1
  have hz:=h0 hk;have h2:jl x.eu++[]=jl v.eu++[]:=by rw[aP,aP];exact aeK
  have g9':x.eu.ew=v.eu.ew:=g9;unfold jl at h2;simp only[aa] at h2;rw[←g9'] at h2;have h2:=List.append_cancel_left h2;obtain⟨q2,h2⟩:=fZ _ _ _ _ hx.seq hv.seq h2;obtain⟨q3,h2⟩:=ia _ _ _ _ hx.OZ hv.OZ h2;obtain⟨q4,h2⟩:=fZ _ _ _ _ hx.iep hv.iep h2;obtain⟨q5,h2⟩:=qQ _ _ _ _ hx.de hv.de h2;unfold tD at h2;simp only[aa] at h2;obtain⟨q6,h2⟩:=fZ _ _ _ _ hx.dF hv.dF h2;have q6':x.eu.dF.length=v.eu.dF.length:=q6;have q7:x.eu.dF=[]:=List.eq_nil_of_length_eq_zero (by rw[q6',hz];rfl);have q8:v.eu.dF=[]:=by rw[hz];rfl
  have h3:dw 8 x.eu.cl++[]=dw 8 v.eu.cl++[]:=by
   rw[q7,q8] at h2;simpa using h2
  obtain⟨q9,_⟩:=fZ _ _ [] [] (show x.eu.cl<18446744073709551616 by have:=hx.cl;omega) (show v.eu.cl<18446744073709551616 by have:v.eu.cl<4294967296:=hv.cl;omega) h3;have e5:x.eu.de=v.eu.de:=q5;have e2:x.eu.seq=v.eu.seq:=q2;have e3:x.eu.dO=v.eu.dO:=q3;have e4:x.eu.ep=v.eu.ep:=q4;exact Wb g9' e2 e3 e4 e5 (q7.trans q8.symm) q9
 exact⟨gk,by have:(x.oE:Int)=(v.oE:Int):=g2;omega,by have:(x.req:Int)=(v.req:Int):=g3;omega,g4,by have:(x.on:Int)=(v.on:Int):=g5;omega,g11,gi,g6,g7,Jr hx.ep hv.ep g8,g12⟩
section
section
variable{r:Rd}
theorem Rd.gN(n:Nat)(h:r.bad=true):(r.take n).bad=true:=by unfold Rd.take;rw[if_pos h];exact h
theorem Rd.kA(h:r.bad=true):r.small.bad=true:=by
 unfold Rd.small;split
 ·rfl
 exact Rd.gN 8 h
theorem Rd.kC(n:Nat)(h:r.bad=true):(r.place n).bad=true:=by
 unfold Rd.place;split
 ·rfl
 exact Rd.gN 1 h
theorem Rd.Mo(n:Int)(h:r.bad=true):(r.dO n).bad=true:=by
 unfold Rd.dO;split
 ·rfl
 exact Rd.gN 8 h
theorem Rd.me(n:Nat)(h:r.bad=true):(r.dY n).bad=true:=by
 unfold Rd.dY;split
 ·rfl
 exact Rd.gN 8 h
theorem Rd.oW(n:Nat)(h:r.bad=true):(r.text n).bad=true:=by
 unfold Rd.text;split
 ·rfl
 exact Rd.gN _ (Rd.gN 4 h)
theorem Rd.Ai(h:r.bad=true):r.mu.bad=true:=Rd.kA (Rd.kC 3 h)
theorem p7{f:Rd→Rd}(hf:∀{r:Rd},r.bad=true→(f r).bad=true)(h:r.bad=true):∀k:Nat,(Nat.repeat f k r).bad=true
 |0=>h
 |k+1=>hf (p7 hf h k)
theorem Rd.CY(h:r.bad=true):r.de.bad=true:=p7 (fun h=>Rd.gN 8 h) (Rd.me 3 h) _
theorem Rd.GK(h:r.bad=true):r.node.bad=true:=Rd.gN 8 (Rd.gN 8 (Rd.gN 8 (Rd.Ai (Rd.kA (Rd.kA (Rd.kA (Rd.oW 64 h)))))))
theorem Rd.M5(h:r.bad=true):r.FV.bad=true:=by
 unfold Rd.FV;split
 ·exact Rd.kC 2 (Rd.oW 64 h)
 exact Rd.GK (Rd.kC 2 (Rd.oW 64 h))
theorem Rd.Tr(k:Nat)(h:r.bad=true):(Rd.rJ k r).bad=true:=p7 (fun h=>Rd.M5 h) h k
theorem Rd.Sf(h:r.bad=true):r.item.bad=true:=Rd.kA (Rd.Tr _ (Rd.me 16 (Rd.CY (Rd.gN 8 (Rd.Mo (-1) (Rd.gN 8 (Rd.kC 3 h)))))))
theorem Rd.Hh(h:r.bad=true):r.leaf.bad=true:=Rd.kC 2 (Rd.kC 2 (Rd.gN 8 (Rd.oW 64 (Rd.oW 64 (Rd.gN 1 h)))))
theorem Rd.Mu(h:r.bad=true):r.XE.bad=true:=Rd.me 0 (Rd.Hh h)
theorem Rd.Ms(k:Nat)(h:r.bad=true):(Rd.EM k r).bad=true:=p7 (fun h=>Rd.Mu h) h k
theorem Pt.qW(p:Pt)(h:r.bad=true):(p.rd r).bad=true:=by
 cases p with
 |client=>exact Rd.kA (Rd.kA h)
 |owner=>exact Rd.Ai h
 |op=>exact Rd.Ms _ (Rd.me 6 (Rd.Hh h))
 |item=>exact Rd.Sf h
 |dy=>exact Rd.kC 3 h
 |place=>exact Rd.Mo 0 h
 |epoch=>exact Rd.gN 8 h
 |de=>exact Rd.CY h
theorem kQ{b:Rd}(hf:r.bad=true→b.bad=true)(h:b.bad=false):r.bad=false:=by
 cases e:r.bad with
 |false=>rfl
 |true=>rw[hf e] at h;cases h
theorem Rd.zG{n:Nat}(h:(r.take n).bad=false):r.bad=false:=kQ (b:=(r.take n)) (fun h=>Rd.gN n h) h
theorem Rd.uZ(h:r.small.bad=false):r.bad=false:=kQ (b:=r.small) (fun h=>Rd.kA h) h
theorem Rd.vw{n:Nat}(h:(r.place n).bad=false):r.bad=false:=kQ (b:=(r.place n)) (fun h=>Rd.kC n h) h
theorem Rd.BA{n:Nat}(h:(r.dY n).bad=false):r.bad=false:=kQ (b:=(r.dY n)) (fun h=>Rd.me n h) h
theorem Rd.Vb{n:Nat}(h:(r.text n).bad=false):r.bad=false:=kQ (b:=(r.text n)) (fun h=>Rd.oW n h) h
theorem Rd.Vg(h:r.mu.bad=false):r.bad=false:=kQ (b:=r.mu) (fun h=>Rd.Ai h) h
theorem Rd.VH(h:r.node.bad=false):r.bad=false:=kQ (b:=r.node) (fun h=>Rd.GK h) h
theorem Rd.aaT(h:r.FV.bad=false):r.bad=false:=kQ (b:=r.FV) (fun h=>Rd.M5 h) h
theorem Rd.Zz(h:r.XE.bad=false):r.bad=false:=kQ (b:=r.XE) (fun h=>Rd.Mu h) h
theorem Rd.Zy{k:Nat}(h:(Rd.EM k r).bad=false):r.bad=false:=kQ (b:=(Rd.EM k r)) (fun h=>Rd.Ms k h) h
theorem Rd.qP{n:Nat}(h:(r.text n).bad=false):r.lz.length≤n:=by
 unfold Rd.text at h;split at h
 ·cases h
 omega
theorem Rd.Oa(r:Rd){n:Nat}(hn:0<n):r.gL n<n:=by
 unfold Rd.gL;split<;>omega
theorem Rd.Mp(r:Rd){n:Int}(h0:n≤0):n≤r.nX n∧r.nX n<4:=by
 unfold Rd.nX;split<;>omega
theorem Rd.count_le(r:Rd)(n:Nat):r.count n≤n:=by
 unfold Rd.count;split<;>omega
end
structure CL(d:Nd):Prop where
 data:d.data.length≤64
 num:tH d.num
 os:0≤d.num.os∧d.num.os<3
structure oh(e:gm):Prop where
 cW:e.cW.length≤64
 node:CL e.node
 gone:e.gone=true→e.node=iQ
structure qK(x:fW):Prop where
 ew:0≤x.ew∧x.ew<3
 seq:x.seq<18446744073709551616
 dO:-1≤x.dO∧x.dO<4
 ep:x.ep<18446744073709551616
 de:x.de.length≤3∧zD x.de
 dF:x.dF.length≤16∧∀e∈x.dF,oh e
 cl:x.cl<4294967296
structure ux(o:fh):Prop where
 kind:0≤o.kind∧o.kind<256
 cW:o.cW.length≤64
 data:o.data.length≤64
 gW:nR o.gW
structure mE(v:fV):Prop where
 kind:v.kind<256
 oE:v.oE<4294967296
 req:v.req<4294967296
 os:0≤v.os∧v.os<3
 on:v.on<4294967296
 op:ux v.op
 pl:v.parts.length≤6
 parts:∀p∈v.parts,ux p
 eu:qK v.eu
 dy:0≤v.dy∧v.dy<3
 dO:0≤v.dO∧v.dO<4
 ep:v.ep<18446744073709551616
 fr:v.fr.length≤3∧zD v.fr
theorem L3:CL iQ:=⟨by simp[iQ],QJ,by decide⟩
theorem Y0:qK mY:=⟨by decide,by decide,by decide,by decide,⟨by decide,fun v hv=>by cases hv⟩,⟨by decide,fun v hv=>by cases hv⟩,by decide⟩
theorem YZ:ux U2:=⟨by decide,by decide,by decide,by unfold nR U2;decide⟩
theorem mE.zero{k:Nat}(h:k<256):mE (fV.zero k):=⟨h,by simp[fV.zero],by simp[fV.zero],by simp[fV.zero],by simp[fV.zero],YZ,by simp[fV.zero],fun p hp=>(by simp[fV.zero] at hp),Y0,by simp[fV.zero],by simp[fV.zero],by simp[fV.zero],⟨by simp[fV.zero],fun v hv=>by simp[fV.zero] at hv⟩⟩
theorem EF(r:Rd):(0:Int)≤(r.gL 3:Nat)∧((r.gL 3:Nat):Int)<3:=⟨by omega,by have:=r.Oa (n:=3) cL;omega⟩
theorem acV{r:Rd}(h:r.node.bad=false):CL r.yu:=by
 have h:((((((((r.text 64).small).small).small).mu).take 8).take 8).take 8).bad=false:=h;have h1:(r.text 64).bad=false:=Rd.uZ (Rd.uZ (Rd.uZ (Rd.Vg (Rd.zG (Rd.zG (Rd.zG h))))));exact⟨Rd.qP h1,r.RG,EF _⟩
theorem ajv{r:Rd}(h:r.FV.bad=false):oh r.rH:=by
 unfold Rd.FV at h;by_cases hg:(r.text 64).rG=true
 ·rw[if_pos hg] at h
  have h1:(r.text 64).bad=false:=Rd.vw h;refine⟨Rd.qP h1,?_,fun _=>?_⟩
  ·unfold Rd.rH
   dsimp only;rw[if_pos hg];exact L3
  unfold Rd.rH;dsimp only;rw[if_pos hg]
 rw[if_neg hg] at h;have h2:=acV h;have h1:(r.text 64).bad=false:=Rd.vw (Rd.VH h);refine⟨Rd.qP h1,?_,fun e=>absurd e hg⟩;unfold Rd.rH;dsimp only;rw[if_neg hg];exact h2
theorem Ys{r:Rd}:∀k:Nat,(Rd.rJ k r).bad=false→∀e∈Rd.qj k r,oh e
 |0,_,e,he=>by cases he
 |k+1,h,e,he=>by
  have h0:(Rd.rJ k r).bad=false:=Rd.aaT h;unfold Rd.qj at he;rcases List.mem_append.1 he with h1|h1
  ·exact Ys k h0 e h1
  ·simp at h1
   subst h1;exact ajv h
theorem Q5(r:Rd):r.nj.length≤3∧zD r.nj:=⟨by rw[Rd.JC];exact Rd.count_le _ _,Rd.GH _ _⟩
theorem ac9{r:Rd}(h:r.item.bad=false):qK r.qB:=by
 unfold Rd.item at h;unfold Rd.qB;dsimp only at h⊢;generalize h0:(((r.place 3).take 8).dO (-1)).take 8=r3 at h⊢;have h5:=Rd.uZ h;have hl:(Rd.qj (r3.de.count 16) (r3.de.dY 16)).length≤16:=by rw[Rd.Iz];exact Rd.count_le _ _
 exact⟨EF r,Rd.On (r.place 3),Rd.Mp ((r.place 3).take 8) cL,Rd.On _,Q5 r3,⟨hl,Ys _ h5⟩,Rd.oZ _⟩
theorem XG{r:Rd}(h:r.leaf.bad=false):ux r.jy:=by
 have h:((((((r.take 1).text 64).text 64).take 8).place 2).place 2).bad=false:=h;have h3:(((r.take 1).text 64).text 64).bad=false:=Rd.zG (Rd.vw (Rd.vw h));have h2:((r.take 1).text 64).bad=false:=Rd.Vb h3;exact⟨⟨by show(0:Int)≤(r.num 1:Nat);omega,by have:=r.RE;show((r.num 1:Nat):Int)<256;omega⟩,Rd.qP h2,Rd.qP h3,tO⟩
theorem Rd.Mr:∀(k:Nat) (r:Rd),(Rd.GD k r).length=k
 |0,_=>rfl
 |k+1,r=>by unfold Rd.GD;rw[ag,Rd.Mr k r];rfl
theorem Rz(k:Nat)(r:Rd):Rd.EM (k+1) r=Rd.XE (Rd.EM k r):=by simp only[Rd.EM,Nat.repeat]
theorem VV{r:Rd}(k:Nat):(Rd.EM k r).bad=false→∀e∈Rd.GD k r,ux e:=by
 induction k with
 |zero=>intro _ e he;simp[Rd.GD] at he
 |succ k ih=>
  intro h e he;rw[Rz] at h;have h0:(Rd.EM k r).bad=false:=Rd.Zz h;unfold Rd.GD at he;rcases List.mem_append.1 he with h1|h1
  ·exact ih h0 e h1
  unfold Rd.XE at h;simp at h1;subst h1;exact XG (Rd.BA h)
theorem mE.op_{x:fV}(hx:mE x){o:fh}{P:List fh}(h1:ux o)(h2:P.length≤6)(h3:∀p∈P,ux p):mE {x with op:=o,parts:=P}:=⟨hx.kind,hx.oE,hx.req,hx.os,hx.on,h1,h2,h3,hx.eu,hx.dy,hx.dO,hx.ep,hx.fr⟩
theorem mE.ahR{x:fV}(hx:mE x){i:fW}(h1:qK i):mE {x with eu:=i}:=⟨hx.kind,hx.oE,hx.req,hx.os,hx.on,hx.op,hx.pl,hx.parts,h1,hx.dy,hx.dO,hx.ep,hx.fr⟩
theorem mE.ajy{x:fV}(hx:mE x){a b:Nat}(h1:a<4294967296)(h2:b<4294967296):mE {x with oE:=a,req:=b}:=⟨hx.kind,h1,h2,hx.os,hx.on,hx.op,hx.pl,hx.parts,hx.eu,hx.dy,hx.dO,hx.ep,hx.fr⟩
theorem mE.ahE{x:fV}(hx:mE x){a:Int}{b:Nat}(h1:0≤a∧a<3)(h2:b<4294967296):mE {x with os:=a,on:=b}:=⟨hx.kind,hx.oE,hx.req,h1,h2,hx.op,hx.pl,hx.parts,hx.eu,hx.dy,hx.dO,hx.ep,hx.fr⟩
theorem mE.acJ{x:fV}(hx:mE x){a:Int}(h1:0≤a∧a<3):mE {x with dy:=a}:=⟨hx.kind,hx.oE,hx.req,hx.os,hx.on,hx.op,hx.pl,hx.parts,hx.eu,h1,hx.dO,hx.ep,hx.fr⟩
theorem mE.ahz{x:fV}(hx:mE x){a:Int}(h1:0≤a∧a<4):mE {x with dO:=a}:=⟨hx.kind,hx.oE,hx.req,hx.os,hx.on,hx.op,hx.pl,hx.parts,hx.eu,hx.dy,h1,hx.ep,hx.fr⟩
theorem mE.ep_{x:fV}(hx:mE x){a:Nat}(h1:a<18446744073709551616):mE {x with ep:=a}:=⟨hx.kind,hx.oE,hx.req,hx.os,hx.on,hx.op,hx.pl,hx.parts,hx.eu,hx.dy,hx.dO,h1,hx.fr⟩
theorem mE.fr_{x:fV}(hx:mE x){V:List Nat}(h1:V.length≤3∧zD V):mE {x with fr:=V}:=⟨hx.kind,hx.oE,hx.req,hx.os,hx.on,hx.op,hx.pl,hx.parts,hx.eu,hx.dy,hx.dO,hx.ep,h1⟩
theorem ahF{r:Rd}(h:(Rd.EM (r.leaf.count 6) (r.leaf.dY 6)).bad=false):ux r.jy∧(Rd.GD (r.leaf.count 6) (r.leaf.dY 6)).length≤6∧∀p∈Rd.GD (r.leaf.count 6) (r.leaf.dY 6),ux p:=
 ⟨XG (Rd.BA (Rd.Zy h)),by rw[Rd.Mr];exact Rd.count_le _ _,VV _ h⟩
theorem mE.step{p:Pt}{r:Rd}{x:fV}(hx:mE x)(h:(p.rd r).bad=false):mE (p.get r x):=by
 cases p with
 |client=>simp only[Pt.get];exact hx.ajy (Rd.oZ r) (Rd.oZ r.small)
 |owner=>simp only[Pt.get];exact hx.ahE (EF r) (Rd.oZ (r.place 3))
 |op=>
  obtain⟨h1,h2,h3⟩:=ahF (show(Rd.EM (r.leaf.count 6) (r.leaf.dY 6)).bad=false from h);simp only[Pt.get];exact hx.op_ h1 h2 h3
 |item=>
  have h1:=ac9 (show r.item.bad=false from h);simp only[Pt.get];exact hx.ahR h1
 |dy=>simp only[Pt.get];exact hx.acJ (EF r)
 |place=>simp only[Pt.get];exact hx.ahz (Rd.Mp r cL)
 |epoch=>simp only[Pt.get];exact hx.ep_ (Rd.On r)
 |de=>simp only[Pt.get];exact hx.fr_ (Q5 r)
theorem Tc(l:List Pt):∀s:Rd×fV,s.1.bad=true→(l.foldl iR s).1.bad=true:=by
 induction l with
 |nil=>intro s h;exact h
 |cons p l ih=>intro s h;rw[aU];exact ih _ (p.qW h)
theorem mE.fold(l:List Pt):∀s:Rd×fV,mE s.2→(l.foldl iR s).1.bad=false→mE (l.foldl iR s).2:=by
 induction l with
 |nil=>intro s h _;exact h
 |cons p l ih=>
  intro s hx h;rw[aU] at h⊢;have h1:(p.rd s.1).bad=false:=kQ (b:=(l.foldl iR (iR s p)).1) (fun e=>Tc l (iR s p) e) h;exact ih _ (hx.step h1) h
theorem ox{D:cO}(h:kM D=true):mE (eM D):=by
 unfold kM at h;simp only[Bool.and_eq_true,decide_eq_true_eq] at h;have hb:(yl D).1.bad=false:=by
  have h2:=h.2;unfold Br at h2;split at h2
  ·cases h2
  rename_i h3
  cases e:(yl D).1.bad with
  |false=>rfl
  |true=>exact absurd (.inl e) h3
 exact mE.fold _ _ (mE.zero (Rd.RE _)) hb
theorem Rp(x:fV)(v:Int):({x with dO:=v}:fV).kind=x.kind:=rfl
theorem Vo(x:fV)(v:Int):({x with dO:=v}:fV).eu=x.eu:=rfl
theorem S8(p:Pt)(r:Rd)(x:fV):(p.get r x).kind=x.kind:=by
 cases p with
 |place=>exact Rp x (r.nX 0)
 |_=>rfl
theorem WI(p:Pt)(r:Rd)(x:fV)(h:p≠.item):(p.get r x).eu=x.eu:=by
 cases p with
 |place=>exact Vo x (r.nX 0)
 |item=>exact absurd rfl h
 |_=>rfl
theorem NI(s:Rd×fV)(p:Pt):(iR s p).2.kind=s.2.kind:=S8 p s.1 s.2
theorem Q4(s:Rd×fV)(p:Pt)(h:p≠.item):(iR s p).2.eu=s.2.eu:=WI p s.1 s.2 h
theorem Pr(l:List Pt):∀s:Rd×fV,(l.foldl iR s).2.kind=s.2.kind:=by
 induction l with
 |nil=>intro s;rfl
 |cons p l ih=>intro s;rw[aU,ih,NI]
theorem Tb(l:List Pt):∀s:Rd×fV,Pt.item∉l→(l.foldl iR s).2.eu=s.2.eu:=by
 induction l with
 |nil=>intro s _;rfl
 |cons p l ih=>intro s h;rw[aU,ih _ (fun e=>h (aM _ e)),Q4 _ _ (fun e=>h (by rw[e];exact aJ))]
theorem JV(D:cO):(eM D).kind=(⟨D,false⟩:Rd).num 1:=Pr _ _
theorem Gy{k:Nat}(h:k≠4):Pt.item∉fq k:=by
 unfold fq;split<;>first|decide|exact absurd rfl h
theorem NY{D:cO}(h:(eM D).kind≠4):(eM D).eu=mY:=by
 rw[JV] at h;exact Tb _ _ (Gy h)
theorem CL.is{d:Nd}(h:CL d):IsN d:=⟨aY h.data cL,h.num,by have:=h.os;omega⟩
theorem oh.is{e:gm}(h:oh e):IsE e:=⟨aY h.cW cL,h.node.is,h.gone⟩
theorem qK.is{x:fW}(h:qK x):IsM x:=⟨by have:=h.ew;unfold nR;omega,by have:=h.ew;omega,h.seq,by have:=h.dO;unfold nR;omega,h.ep,⟨by have:=h.de.1;omega,h.de.2⟩,by have:=h.dF.1;omega,fun e he=>(h.dF.2 e he).is,h.cl⟩
theorem ux.is{o:fh}(h:ux o):IsO o:=⟨h.kind,aY h.cW cL,aY h.data cL,h.gW⟩
theorem mE.is{v:fV}(h:mE v):IsX v.x:=by
 have hi:=h.eu.is;exact⟨h.kind,h.oE,h.req,by have:=h.os;unfold nR;show _≤v.os∧v.os<_;omega,h.on,⟨2,RA h.op.is (by have:=h.pl;omega) (fun p hp=>(h.parts p hp).is)⟩,by have:=h.dy;unfold nR;show _≤v.dy∧v.dy<_;omega,by have:=h.dO;unfold nR;show _≤v.dO∧v.dO<_;omega,h.ep,⟨by have:=h.fr.1;show v.fr.length<_;omega,h.fr.2⟩,fun _=>hi,hi.ew,hi.dO,hi.seq,hi.ep,hi.de,hi.dF,hi.cl⟩
theorem N0{x:jA}(hx:IsX x)(h:Cl x=0):mF (zJ x)=true∧mE (eM (zJ x))∧Is x (eM (zJ x)):=by
 obtain⟨_,h2,h3,_⟩:=EE h;have h4:kM (zJ x)=true:=by
  unfold mF at h2;simp only[Bool.and_eq_true] at h2;exact h2.1
 have h5:=ox h4;exact⟨h2,h5,FY hx h5.is (fun e=>NY e) h3⟩
def kK(s:cO):Rd:=⟨s,false⟩
theorem EA(n v:Nat)(s:cO)(hv:v<256 ^ n):(kK (dw n v++s)).num n=v∧(kK (dw n v++s)).take n=kK s:=by
 have hl:¬(dw n v++s).length<n:=by rw[ag,dD];omega
 refine⟨?_,?_⟩
 ·unfold Rd.num Rd.got kK
  rw[if_neg cM,if_neg hl];show mo ((dw n v++s).take n)=v;rw[List.take_left' (dD n v),wV hv]
 unfold Rd.take kK;rw[if_neg cM,if_neg hl];show Rd.mk ((dw n v++s).drop n) false=_;rw[List.drop_left' (dD n v)]
theorem mL{v:Nat}{s:cO}(hv:v<18446744073709551616):(kK (dw 8 v++s)).num 8=v∧(kK (dw 8 v++s)).take 8=kK s:=EA 8 v s hv
theorem Ez{D s:cO}(h:D.length≤64):(kK (kq D++s)).lz=D∧(kK (kq D++s)).text 64=kK s:=by
 have e:kq D++s=dw 4 D.length++(D++s):=by unfold kq;rw[aa]
 obtain⟨h1,h2⟩:=EA 4 D.length (D++s) (show D.length<256 ^ 4 by omega);have hv:(kK (kq D++s)).lz=D:=by
  rw[e];unfold Rd.lz;rw[h1,h2];unfold Rd.got kK;rw[if_neg cM,if_neg cM];exact List.take_left' rfl
 refine⟨hv,?_⟩;unfold Rd.text;rw[hv,if_neg cK,e];unfold Rd.F7;rw[h1,h2];unfold Rd.take kK;rw[if_neg cM,if_neg cM];show Rd.mk ((D++s).drop D.length) false=_;rw[List.drop_left' rfl]
theorem qU{v:Nat}{s:cO}(hv:v<4294967296):(kK (dw 8 v++s)).eH=v∧(kK (dw 8 v++s)).small=kK s:=by
 obtain⟨h1,h2⟩:=mL (v:=v) (s:=s) cK;unfold Rd.eH Rd.small;rw[h1,h2,if_neg cK,if_neg cK];exact⟨rfl,rfl⟩
theorem Ap{v n:Nat}{s:cO}(hv:v<n)(hn:n≤256):(kK (dw 1 v++s)).gL n=v∧(kK (dw 1 v++s)).place n=kK s:=by
 obtain⟨h1,h2⟩:=EA 1 v s (show v<256 ^ 1 by omega);unfold Rd.gL Rd.place;rw[h1,h2,if_neg cK,if_neg cK];exact⟨rfl,rfl⟩
theorem Zo{x:Int}{s:cO}(hx:nR x):aH ((kK (dw 8 (lu x)++s)).num 8:Nat)=x∧(kK (dw 8 (lu x)++s)).take 8=kK s:=by
 obtain⟨h1,h2⟩:=mL (s:=s) (zM x);rw[h1,h2];refine⟨?_,rfl⟩;unfold nR at hx;unfold aH lu;omega
theorem Zn{x l:Int}{s:cO}(hx:l≤x∧x<4)(hl:-1≤l):(kK (dw 8 (lu x)++s)).nX l=x∧(kK (dw 8 (lu x)++s)).dO l=kK s:=by
 obtain⟨h1,h2⟩:=Zo (s:=s) (show nR x by unfold nR;omega);unfold Rd.nX Rd.dO;rw[h1,h2,if_neg cK,if_neg cK];exact⟨rfl,rfl⟩
theorem Mm{g:Bool}{s:cO}:(kK (dw 1 (nL g)++s)).rG=g∧(kK (dw 1 (nL g)++s)).place 2=kK s:=by
 obtain⟨h1,h2⟩:=Ap (v:=nL g) (n:=2) (s:=s) (by cases g<;>decide) cL;unfold Rd.rG;rw[h1,h2];refine⟨?_,rfl⟩;cases g<;>decide
theorem Vk{o n:Int}{s:cO}(ho:0≤o∧o<3)(hn:wD n):((kK (iO o n++s)).gL 3:Int)=o∧(((kK (iO o n++s)).place 3).eH:Int)=n∧(kK (iO o n++s)).mu=kK s:=by
 obtain⟨m,rfl,hm⟩:=hn.nat;have e:iO o (m:Int)++s=dw 1 o.toNat++(dw 8 m++s):=by
  unfold iO;rw[aa,Int.emod_eq_of_lt ho.1 cK];rfl
 obtain⟨h1,h2⟩:=Ap (v:=o.toNat) (n:=3) (s:=dw 8 m++s) cK cL;obtain⟨h3,h4⟩:=qU (v:=m) (s:=s) hm;unfold Rd.mu;rw[e,h1,h2,h3,h4];exact⟨by omega,rfl,rfl⟩
theorem Eo{n:Int}(h:wD n):((n.toNat:Nat):Int)=n∧n.toNat<4294967296:=by unfold wD at h;omega
theorem En{n:Int}(h:Ji n):((n.toNat:Nat):Int)=n∧n.toNat<18446744073709551616:=by unfold Ji at h;omega
theorem Vl{d:Nd}{s:cO}(h:CL d):(kK (pg d++s)).yu=d∧(kK (pg d++s)).node=kK s:=by
 obtain⟨D,⟨q1,q2,q3,q4,q5,q6,q7,q8⟩⟩:=d;have hn:=h.num;obtain⟨e1,l1⟩:=Eo hn.gW;obtain⟨e2,l2⟩:=Eo hn.BV;obtain⟨e3,l3⟩:=Eo hn.next;obtain⟨e6,l6⟩:=En hn.made;obtain⟨e7,l7⟩:=En hn.CI;obtain⟨e8,l8⟩:=En hn.Ch;dsimp only at e1 l1 e2 l2 e3 l3 e6 l6 e7 l7 e8 l8;unfold pg;simp only[aa];obtain⟨t1,t2⟩:=Ez (D:=D) (s:=dw 8 q1.toNat++(dw 8 q2.toNat++(dw 8 q3.toNat++(iO q4 q5++(dw 8 q6.toNat++(dw 8 q7.toNat++(dw 8 q8.toNat++s))))))) h.data;obtain⟨a1,b1⟩:=qU (v:=q1.toNat) (s:=dw 8 q2.toNat++(dw 8 q3.toNat++(iO q4 q5++(dw 8 q6.toNat++(dw 8 q7.toNat++(dw 8 q8.toNat++s)))))) l1;obtain⟨a2,b2⟩:=qU (v:=q2.toNat) (s:=dw 8 q3.toNat++(iO q4 q5++(dw 8 q6.toNat++(dw 8 q7.toNat++(dw 8 q8.toNat++s))))) l2;obtain⟨a3,b3⟩:=qU (v:=q3.toNat) (s:=iO q4 q5++(dw 8 q6.toNat++(dw 8 q7.toNat++(dw 8 q8.toNat++s)))) l3;obtain⟨a4,a5,b5⟩:=Vk (o:=q4) (n:=q5) (s:=dw 8 q6.toNat++(dw 8 q7.toNat++(dw 8 q8.toNat++s))) h.os hn.on;obtain⟨a6,b6⟩:=mL (v:=q6.toNat) (s:=dw 8 q7.toNat++(dw 8 q8.toNat++s)) l6;obtain⟨a7,b7⟩:=mL (v:=q7.toNat) (s:=dw 8 q8.toNat++s) l7;obtain⟨a8,b8⟩:=mL (v:=q8.toNat) (s:=s) l8;unfold Rd.yu Rd.node;dsimp only;rw[t1,t2,a1,b1,a2,b2,a3,b3,a4,a5,b5,a6,b6,a7,b7,a8,b8,e1,e2,e3,e6,e7,e8];exact⟨rfl,rfl⟩
theorem Zp{x:gm}{s:cO}(h:oh x):(kK (mc x++s)).rH=x∧(kK (mc x++s)).FV=kK s:=by
 obtain⟨p,g,d⟩:=x;have hg:=h.gone;unfold mc;simp only[aa];cases g with
 |true=>
  have hd:d=iQ:=hg rfl;subst hd;obtain⟨t1,t2⟩:=Ez (D:=p) (s:=dw 1 (nL true)++s) h.cW;obtain⟨a1,b1⟩:=Mm (g:=true) (s:=s);simp only[if_true,List.nil_append];unfold Rd.rH Rd.FV;rw[t1,t2,a1,b1];exact⟨rfl,rfl⟩
 |false=>
 simp only[bH,if_false];obtain⟨t1,t2⟩:=Ez (D:=p) (s:=dw 1 (nL false)++(pg d++s)) h.cW;obtain⟨a1,b1⟩:=Mm (g:=false) (s:=pg d++s);obtain⟨a2,b2⟩:=Vl (s:=s) h.node;unfold Rd.rH Rd.FV;rw[t1,t2,a1,b1,a2,b2];exact⟨rfl,rfl⟩
theorem EB{α:Type}{f:α→cO}{P:α→Prop}{st:Rd→Rd}{val:Rd→α}{g:Nat→Rd→List α}(SH:∀r,g 0 r=[])(Fc:∀k r,g (k+1) r=g k r++[val (Nat.repeat st k r)])
  (H:∀x s,P x→val (kK (f x++s))=x∧st (kK (f x++s))=kK s) (L:List α) (s:cO) (hL:∀x∈L,P x):∀k,k≤L.length→Nat.repeat st k (kK (L.flatMap f++s))=kK ((L.drop k).flatMap f++s)∧g k (kK (L.flatMap f++s))=L.take k
 |0,_=>⟨rfl,by rw[SH];rfl⟩
 |k+1,hk=>by
  obtain⟨h1,h2⟩:=EB SH Fc H L s hL k cK;have hd:(L.drop k).flatMap f++s=f (L[k]'(by omega))++((L.drop (k+1)).flatMap f++s):=by
   rw[List.drop_eq_getElem_cons (show k<L.length by omega),aA,aa]
  obtain⟨h3,h4⟩:=H (L[k]'(by omega)) ((L.drop (k+1)).flatMap f++s) (hL _ (bq _))
  refine⟨?_,?_⟩
  ·show st (Nat.repeat st k _)=_
   rw[h1,hd,h4]
  ·rw[Fc,h2,h1,hd,h3,List.take_succ_eq_append_getElem (show k<L.length by omega)]
theorem Gp{n m:Nat}{s:cO}(h:n≤m)(hm:m≤1000):(kK (dw 8 n++s)).count m=n∧(kK (dw 8 n++s)).dY m=kK s:=by
 obtain⟨h1,h2⟩:=mL (v:=n) (s:=s) cK;unfold Rd.count Rd.dY;rw[h1,h2,if_neg cK,if_neg cK];exact⟨rfl,rfl⟩
theorem Rk{V:List Nat}{s:cO}(h:V.length≤3)(hu:zD V):(kK (gw V++s)).nj=V∧(kK (gw V++s)).de=kK s:=by
 unfold gw;rw[aa];obtain⟨h1,h2⟩:=Gp (n:=V.length) (m:=3) (s:=V.flatMap (dw 8)++s) h cL;unfold Rd.nj Rd.de;rw[h1,h2];obtain⟨h3,h4⟩:=EB (g:=Rd.xu) (st:=fun x=>Rd.take x 8) (val:=fun x=>x.num 8) (fun _=>rfl) (fun _ _=>rfl) (P:=fun v=>v<18446744073709551616) (f:=dw 8) (fun x s hx=>mL hx) V s hu V.length (aE _);rw[h4,List.take_length];refine⟨rfl,?_⟩;unfold Rd.skip;rw[h3,List.drop_length];rfl
theorem Vn{E:List gm}{s:cO}(hE:∀e∈E,oh e):Rd.qj E.length (kK (E.flatMap mc++s))=E∧Rd.rJ E.length (kK (E.flatMap mc++s))=kK s:=by
 obtain⟨h3,h4⟩:=EB (g:=Rd.qj) (st:=Rd.FV) (val:=Rd.rH) (fun _=>rfl) (fun _ _=>rfl) (P:=oh) (f:=mc) (fun x s hx=>Zp hx) E s hE E.length (aE _);rw[h4,List.take_length];refine⟨rfl,?_⟩;unfold Rd.rJ;rw[h3,List.drop_length];rfl
theorem Vm{x:fW}{s:cO}(h:qK x):(kK (jl x++s)).qB=x∧(kK (jl x++s)).item=kK s:=by
 obtain⟨ew,seq,dO,ep,st,ef,cl⟩:=x;obtain⟨ho,hs,hr,he,ht,hf,hc⟩:=h;dsimp only at ho hs hr he ht hf hc;unfold jl tD;simp only[aa];rw[show(ew % 256).toNat=ew.toNat by omega];obtain⟨a1,b1⟩:=Ap (v:=ew.toNat) (n:=3) (s:=dw 8 seq++(dw 8 (lu dO)++(dw 8 ep++(gw st++(dw 8 ef.length++(ef.flatMap mc++(dw 8 cl++s))))))) cK cL;obtain⟨a2,b2⟩:=mL (v:=seq) (s:=dw 8 (lu dO)++(dw 8 ep++(gw st++(dw 8 ef.length++(ef.flatMap mc++(dw 8 cl++s)))))) hs;obtain⟨a3,b3⟩:=Zn (x:=dO) (l:=-1) (s:=dw 8 ep++(gw st++(dw 8 ef.length++(ef.flatMap mc++(dw 8 cl++s))))) hr cL;obtain⟨a4,b4⟩:=mL (v:=ep) (s:=gw st++(dw 8 ef.length++(ef.flatMap mc++(dw 8 cl++s)))) he;obtain⟨a5,b5⟩:=Rk (s:=dw 8 ef.length++(ef.flatMap mc++(dw 8 cl++s))) ht.1 ht.2;obtain⟨a6,b6⟩:=Gp (n:=ef.length) (m:=16) (s:=ef.flatMap mc++(dw 8 cl++s)) hf.1 cL;obtain⟨a7,b7⟩:=Vn (s:=dw 8 cl++s) hf.2;obtain⟨a8,b8⟩:=qU (v:=cl) (s:=s) hc;unfold Rd.qB Rd.item;dsimp only;rw[a1,b1,a2,b2,a3,b3,a4,b4,a5,b5,a6,b6,a7,b7,a8,b8];refine⟨?_,rfl⟩;rw[show((ew.toNat:Nat):Int)=ew by omega]
def ac8(z:jA)(x:fW):jA:={z with kind:=4,eu:=x}
end
section
open Go.RowKit Go.Shelf Go.MapKept Go.ChangeMaps
theorem Ti(w:ah)(a:Option aS)(n c:Nat):(binOp .eql 37 (.slice a n c) (.n)).run prog w=.ok (.bool a.isNone) w:=Lib.run_eql_slice_nil w _ _ a n c 0 0 underlying37
def jb(w:ah)(V:List Nat)(e:bM)(w':ah):Prop:=∃v,e=.returned v∧w'.ownsRow w.heap.size 36 1 v V.length (ng V)∧cE w w'
theorem lJ(w:ah)(ao:Option aS)(c:Nat)(lo:Nat→Prop)(V:List Nat)(hl:V.length≤1000000000)(h:dK w lo ao V):
  aV prog 46 #[.slice ao V.length c] w (jb w V):=by
 cases ao with
 |none=>
  have hV:V=[]:=by
   cases V with
   |nil=>rfl
   |cons v r=>
   obtain⟨b,off,e,_⟩:=h 0 v rfl;cases e
  subst hV;have q:=fun w:ah=>Ti w none 0 c
  clear h;go_enter func46,ntmps46
  go_wp2
  go_ret
  exact⟨_,rfl,World.ownsRow_nil w _ 36 1,af _ _⟩
 |some ad=>
 have q:=fun w:ah=>Ti w (some ad) V.length c
 have hcells:∀j u,(ng V)[j]?=some u→(w.alloc (.cells #[] 36)).cell? (ad.add j)=some u:=fun j u hu=>by
  simp only[ng,aG,aI] at hu;obtain⟨x,hx,rfl⟩:=hu;obtain⟨b,off,e,_,h3,h4⟩:=h j x hx;cases e;rw[Addr.add_mid];exact((cT (af _ w) _).cell (p:=⟨b,off+j,none⟩) h3).trans h4
 have zb:=cD hcells;have Np:=cD (World.ownsRow_made (base:=w.heap.size) (e:=36) (size:=1) w #[] 0 cK cL rfl);obtain⟨N,hN⟩:=cF V.length;have gQ:(ng V).length=N*1:=by rw[hN];simp[ng]
 have FM:=cD gQ;obtain⟨i0,hi,hz0,hz1,hz2⟩:=info_parts EZ;have HI:=cD (cC hi (cC hz0 (cC hz1 hz2)));have HN:=cD hN;rw[←hN] at hl q⊢;clear h hcells gQ hN hi hz0 hz1 hz2;go_enter func46,ntmps46
 go_wp2_with (at_builtin;refine eD rfl (.tmp 5) (.tmp 6) 37 rfl w.heap.size 36 i0 (.V) 1 8 underlying37 HI.out.1 HI.out.2.1 HI.out.2.2.1 HI.out.2.2.2 rfl cL _ _ _ rfl Np.out ad N c (ng V) rfl FM.out zb.out (by intro u hu;simp[ng] at hu;obtain⟨x,_,rfl⟩:=hu;rfl) (by unfold maxLen;omega) cK cM ?_;intro v3 w3 hown hgrow hwhere)
 have BY:cE w w3:=(cT (af _ w) _).grown hgrow cM (fun g hg=>(Np.out.lt g hg).1);rw[aN] at hown;have Uh:=cD hown;have mQ:=cD BY;clear hown hgrow hwhere BY;go_wp2
 go_ret
 refine⟨v3,rfl,?_,mQ.out⟩;have h3:=Uh.out;have h4:=HN.out;subst h4;simpa using h3
theorem jb.sl{w w':ah}{V:List Nat}{e:bM}(h:jb w V e w'):∃a c,e=.returned (.slice a V.length c)∧w'.ownsRow w.heap.size 36 1 (.slice a V.length c) V.length (ng V)∧dK w' (fU w.heap.size) a V∧cE w w':=by
 obtain⟨v,he,ho,hb⟩:=h;obtain⟨a,c,rfl⟩:=iE ho;exact⟨a,c,he,ho,(uX ho).1,hb⟩
theorem RL(w:ah)(n:Nat)(hn:n≤3):aV prog 44 #[.i n] w (jb w (List.replicate n 0)):=by
 obtain⟨i0,hi,hz0,hz1,hz2⟩:=info_parts EZ;obtain⟨w1,hr,ho,hg⟩:=run_make_full (P:=prog) (w:=w) w.heap.size 37 36 i0 (.V) 1 underlying37 hi hz0 hz1 .i64 .i64 n (by rw[hz2];omega) (by unfold maxLen;omega) (aE _);rw[show(bC .u64 0).cells=#[bC .u64 0] from rfl,Nat.mul_one,toList_madeCells_one] at ho;have h1:decide ((n:Int)<0)=false:=by simp
 have h2:decide (3<(n:Int))=false:=by simp;omega
 have HO:=cD (cC ho (Below.grown (af _ w) hg (aE _) (fun k hk=>by cases hk)));clear ho hg hi hz0 hz1 hz2;go_enter func44,ntmps44
 go_wp2
 go_ret
 refine⟨_,rfl,?_,HO.out.2⟩;simpa [ng] using HO.out.1
theorem QX(V:List Nat)(i x:Nat):(ng V).set i (.v x)=ng (V.set i x):=by simp[ng,List.map_set]
theorem MJ(w:ah)(ao:Option aS)(c:Nat)(lo:Nat→Prop)(V:List Nat)(i:Nat)(hi:i<V.length)(hl:V.length≤1000)(hv:V.getD i 0<18446744073709551615)(h:dK w lo ao V):
  aV prog 251 #[.slice ao V.length c,.i i] w (jb w (lF V i)):=by
 have HC:=cD (lJ w ao c lo V cK h);obtain⟨N,hN⟩:=cF V.length;have HN:=cD hN;have hvi:V[i]?=some (V.getD i 0):=by simp[List.getD,aj hi]
 have HV:=cD (cC hvi hv);rw[←hN] at hi hl HC⊢;clear h hvi hv hN;go_enter func251,ntmps251
 go_wp2_with fail
 refine HC.out.mono ?_;rintro e w1 FQ;obtain⟨a,c1,rfl,ho,hst,hb⟩:=FQ.sl;rw[←HN.out] at ho⊢;clear FQ;obtain⟨g,rfl,SG,DF⟩:∃g,a=some ⟨g,0,none⟩∧w.heap.size≤g∧g<w1.heap.size:=by
  rcases ho.2 with ⟨h1,h0⟩|⟨g,cap,cur,h1,yG,hg,_⟩
  ·omega
  cases h1;exact⟨g,rfl,yG,aO hg⟩
 have hc:=ho.cellAt i cK;rw[show(ng V)[i]?=some (.v (V.getD i 0)) by simp only[ng,aG];rw[HV.out.1];rfl] at hc;have hf:=ho.frozenAt i;obtain⟨ho2,hg2⟩:=ho.stored i (.v ((V.getD i 0+1:Nat):Int));rw[QX] at ho2;obtain⟨x,hx⟩:=cF (V.getD i 0);rw[←hx] at hc ho2 hg2;have hx2:x<18446744073709551615:=by rw[hx];exact HV.out.2
 have HX:=cD hx;have HO:=cD (cC ho2 (Below.grown hb hg2 hb.size (fun k hk=>by cases hk;exact SG)));clear ho hst ho2 hg2 hx hb;go_wp2
 go_ret
 refine⟨.slice (some ⟨g,0,none⟩) N c1,rfl,?_,HO.out.2⟩;have h1:=HO.out.1;rw[HX.out,Int.natCast_add] at h1;have h2:(lF V i).length=N:=by rw[HN.out];simp[lF]
 rw[h2,HX.out];exact h1
end
section
open Go.RowKit Go.Shelf Go.MapKept Go.ChangeMaps Go.Sort
open Go.Maps (Keyed)
def Pt.CA:Pt→FuncId
 |.client=>123
 |.owner=>127
 |.op=>133
 |.item=>139
 |.dy=>143
 |.place=>148
 |.epoch=>153
 |.de=>156
def Pt.qI:Pt→FuncId
 |.client=>125
 |.owner=>129
 |.op=>135
 |.item=>140
 |.dy=>145
 |.place=>150
 |.epoch=>154
 |.de=>158
def Pt.Cf:Pt→aF
 |.client=>.nilFunc
 |.owner=>.func (.func 131) #[] #[]
 |.op=>.func (.func 137) #[] #[]
 |.item=>.func (.func 142) #[] #[]
 |.dy=>.func (.func 147) #[] #[]
 |.place=>.func (.func 152) #[] #[]
 |.epoch=>.nilFunc
 |.de=>.func (.func 160) #[] #[]
def Pt.cells(p:Pt):List aF:=[.func (.func p.CA) #[] #[],.func (.func p.qI) #[] #[],p.Cf]
theorem Pt.kG(p:Pt):p.cells.length=3:=rfl
def nP(w:ah)(base:Nat)(v:aF)(l:List Pt):Prop:=∃g,v=.slice (some ⟨g,0,none⟩) l.length l.length∧(base≤g∧g<w.heap.size)∧∀(k:Nat) p,l[k]?=some p→w.rangeAt g (k*3) p.cells
theorem nP.below{w w':ah}{base:Nat}{v:aF}{l:List Pt}(h:nP w base v l)(hb:cE w w'):nP w' base v l:=by
 obtain⟨g,h1,h2,h3⟩:=h;exact⟨g,h1,⟨h2.1,aK h2.2 hb.size⟩,fun k p hk=>dR (h3 k p hk) hb h2.2⟩
def FH(w:ah)(base mb:Nat):Prop:=∃m:List (Nat×aF),dS prog 5 oK id w mb m∧∀k:Nat,(kindOk k=true→∃v,dL k m=some v∧nP w base v (fq k))∧(kindOk k=false→dL k m=none)
theorem Du{k:Nat}(hk:k<256):∃l,keyOf prog 5 (oK k)=some l:=by
 have hall:((aL 256).all fun j=>(keyOf prog 5 (oK j)).isSome)=true:=by kernel_rfl
 exact Option.isSome_iff_exists.1 (List.all_eq_true.1 hall k (bA.2 hk))
theorem FH.look{w:ah}{base mb:Nat}(h:FH w base mb)(k:Nat)(hk:k<256):∃v,(∀W,cE w W→(Instr.lookup 130 (.map (some mb)) (.b k) true).run prog W=.ok (.tuple #[v,.bool (kindOk k)]) W)∧(kindOk k=true→nP w base v (fq k))∧(kindOk k=false→v=.n):=by
 obtain⟨m,h1,h2⟩:=h;obtain⟨l,hl0⟩:=Du hk;refine⟨((dL k m).map id).getD (.n),fun W hW=>?_,fun e=>?_,fun e=>?_⟩
 ·have hz:(zeroValue 128).run prog W=.ok (.n) W:=by kernel_rfl
  have hl:=(h1.of_block (hW.block _ h1.lt)).mT iZ eN underlying130 hz (a:=k) hl0;refine hl.trans ?_;cases e:kindOk k with
  |true=>
   obtain⟨v,g1,_⟩:=(h2 k).1 e;rw[g1];rfl
  |false=>rw[(h2 k).2 e];rfl
 ·obtain⟨v,g1,g2⟩:=(h2 k).1 e
  rw[g1];exact g2
 rw[(h2 k).2 e];rfl
theorem jk(P:bJ)(w:ah)(a:aS)(f:Fn)(x y:Array aF)(m:Mode):
  (store a (.func f x y) m).run P w=match w.cell? a with
   |some _=>if w.frozen? a then .halt (.unsupported (.unsafePointer "a write to bytes that a string shares")) w else .ok () (w.setCell a (.func f x y))
   |none=>match w.farStore P a (.func f x y) (m==.atomic) with
    |.ok (w',_)=>.ok () w'
    |.error h=>.halt h w:=run_store P w a _ m rfl
theorem jj(P:bJ)(w:ah)(a:aS)(m:Mode):
  (store a .nilFunc m).run P w=match w.cell? a with
   |some _=>if w.frozen? a then .halt (.unsupported (.unsafePointer "a write to bytes that a string shares")) w else .ok () (w.setCell a .nilFunc)
   |none=>match w.farStore P a .nilFunc (m==.atomic) with
    |.ok (w',_)=>.ok () w'
    |.error h=>.halt h w:=run_store P w a _ m rfl
attribute [local go_sem] jk jj
theorem DP:∀(L:List Pt) (k:Nat) (p:Pt),L[k]?=some p→∀j u,p.cells[j]?=some u→(L.flatMap Pt.cells)[k*3+j]?=some u
 |[],k,p,h,j,u,hu=>by simp at h
 |x::L,0,p,h,j,u,hu=>by
  simp at h;subst h;have hj:=(aB.1 hu).1;rw[aA,List.getElem?_append_left cK,Nat.zero_mul,aN];exact hu
 |x::L,k+1,p,h,j,u,hu=>by
  rw[aA,List.getElem?_append_right (by rw[Pt.kG];omega),Pt.kG,show(k+1)*3+j - 3=k*3+j by omega];exact DP L k p (by simpa using h) j u hu
theorem nP.new(w:ah)(base:Nat)(hb:base≤w.heap.size)(l:List Pt):nP (w.alloc (.cells (l.flatMap Pt.cells).toArray 137)) base (.slice (some ⟨w.heap.size,0,none⟩) l.length l.length) l:=
 ⟨w.heap.size,rfl,⟨hb,by simp⟩,fun k p hk j u hu=>by
  rw[cell_of_row _ _ (k*3+j) _ 137 (0,0) (aR w _)];simpa using DP l k p hk j u hu⟩
theorem nP.kept{w w':ah}{B n base:Nat}{l:List Pt}{S:Nat→Prop}(h:nP w base (.slice (some ⟨B,0,none⟩) n n) l)(hk:cQ S w w')(hB:¬S B):nP w' base (.slice (some ⟨B,0,none⟩) n n) l:=by
 obtain⟨g,h1,h2,h3⟩:=h;cases h1;exact⟨B,rfl,⟨h2.1,aK h2.2 hk.size⟩,fun k p hp j u hu=>(hk.cell (p:=⟨B,k*3+j,none⟩) h2.2 hB).trans (h3 k p hp j u hu)⟩
theorem Hr(w:ah):∃w8,w8=(((((((w.alloc (.cells #[.func (.func 123) #[] #[],.func (.func 125) #[] #[],.nilFunc] 137)).alloc (.cells #[.func (.func 127) #[] #[],.func (.func 129) #[] #[],.func (.func 131) #[] #[]] 137)).alloc (.cells #[.func (.func 133) #[] #[],.func (.func 135) #[] #[],.func (.func 137) #[] #[]] 137)).alloc (.cells #[.func (.func 139) #[] #[],.func (.func 140) #[] #[],.func (.func 142) #[] #[]] 137)).alloc (.cells #[.func (.func 143) #[] #[],.func (.func 145) #[] #[],.func (.func 147) #[] #[]] 137)).alloc (.cells #[.func (.func 148) #[] #[],.func (.func 150) #[] #[],.func (.func 152) #[] #[]] 137)).alloc (.cells #[.func (.func 153) #[] #[],.func (.func 154) #[] #[],.nilFunc] 137)).alloc (.cells #[.func (.func 156) #[] #[],.func (.func 158) #[] #[],.func (.func 160) #[] #[]] 137)∧cE w w8∧w8.heap.size=w.heap.size+1+1+1+1+1+1+1+1∧∀w',cQ (·=w.heap.size+1+1+1+1+1+1+1+1) w8 w'→w'.cell? ⟨w.heap.size,0,none⟩=some (.func (.func 123) #[] #[])∧w'.cell? ⟨w.heap.size,1,none⟩=some (.func (.func 125) #[] #[])∧w'.cell? ⟨w.heap.size,2,none⟩=some (.nilFunc)∧w'.cell? ⟨w.heap.size+1,0,none⟩=some (.func (.func 127) #[] #[])∧w'.cell? ⟨w.heap.size+1,1,none⟩=some (.func (.func 129) #[] #[])∧w'.cell? ⟨w.heap.size+1,2,none⟩=some (.func (.func 131) #[] #[])∧w'.cell? ⟨w.heap.size+1+1,0,none⟩=some (.func (.func 133) #[] #[])∧w'.cell? ⟨w.heap.size+1+1,1,none⟩=some (.func (.func 135) #[] #[])∧w'.cell? ⟨w.heap.size+1+1,2,none⟩=some (.func (.func 137) #[] #[])∧w'.cell? ⟨w.heap.size+1+1+1,0,none⟩=some (.func (.func 139) #[] #[])∧w'.cell? ⟨w.heap.size+1+1+1,1,none⟩=some (.func (.func 140) #[] #[])∧w'.cell? ⟨w.heap.size+1+1+1,2,none⟩=some (.func (.func 142) #[] #[])∧w'.cell? ⟨w.heap.size+1+1+1+1,0,none⟩=some (.func (.func 143) #[] #[])∧w'.cell? ⟨w.heap.size+1+1+1+1,1,none⟩=some (.func (.func 145) #[] #[])∧w'.cell? ⟨w.heap.size+1+1+1+1,2,none⟩=some (.func (.func 147) #[] #[])∧w'.cell? ⟨w.heap.size+1+1+1+1+1,0,none⟩=some (.func (.func 148) #[] #[])∧w'.cell? ⟨w.heap.size+1+1+1+1+1,1,none⟩=some (.func (.func 150) #[] #[])∧w'.cell? ⟨w.heap.size+1+1+1+1+1,2,none⟩=some (.func (.func 152) #[] #[])∧w'.cell? ⟨w.heap.size+1+1+1+1+1+1,0,none⟩=some (.func (.func 153) #[] #[])∧w'.cell? ⟨w.heap.size+1+1+1+1+1+1,1,none⟩=some (.func (.func 154) #[] #[])∧w'.cell? ⟨w.heap.size+1+1+1+1+1+1,2,none⟩=some (.nilFunc)∧w'.cell? ⟨w.heap.size+1+1+1+1+1+1+1,0,none⟩=some (.func (.func 156) #[] #[])∧w'.cell? ⟨w.heap.size+1+1+1+1+1+1+1,1,none⟩=some (.func (.func 158) #[] #[])∧w'.cell? ⟨w.heap.size+1+1+1+1+1+1+1,2,none⟩=some (.func (.func 160) #[] #[]):=by
 obtain⟨w1,hw1,dB,hs1,kP⟩:=dX w [.func (.func 123) #[] #[],.func (.func 125) #[] #[],.nilFunc] 137;obtain⟨w2,fH,dI,hs2,hr2⟩:=dX w1 [.func (.func 127) #[] #[],.func (.func 129) #[] #[],.func (.func 131) #[] #[]] 137;obtain⟨w3,kJ,eO,hs3,DD⟩:=dX w2 [.func (.func 133) #[] #[],.func (.func 135) #[] #[],.func (.func 137) #[] #[]] 137;obtain⟨w4,lP,hb4,hs4,UI⟩:=dX w3 [.func (.func 139) #[] #[],.func (.func 140) #[] #[],.func (.func 142) #[] #[]] 137;obtain⟨w5,nI,jz,hs5,Wn⟩:=dX w4 [.func (.func 143) #[] #[],.func (.func 145) #[] #[],.func (.func 147) #[] #[]] 137;obtain⟨w6,mU,uE,MN,Qp⟩:=dX w5 [.func (.func 148) #[] #[],.func (.func 150) #[] #[],.func (.func 152) #[] #[]] 137;obtain⟨w7,pI,nY,Wl,hr7⟩:=dX w6 [.func (.func 153) #[] #[],.func (.func 154) #[] #[],.nilFunc] 137;obtain⟨w8,uC,Ii,MM,hr8⟩:=dX w7 [.func (.func 156) #[] #[],.func (.func 158) #[] #[],.func (.func 160) #[] #[]] 137;have e1:w1.heap.size=w.heap.size+1:=by rw[hs1]
 have e2:w2.heap.size=w.heap.size+1+1:=by rw[hs2,e1]
 have e3:w3.heap.size=w.heap.size+1+1+1:=by rw[hs3,e2]
 have e4:w4.heap.size=w.heap.size+1+1+1+1:=by rw[hs4,e3]
 have e5:w5.heap.size=w.heap.size+1+1+1+1+1:=by rw[hs5,e4]
 have e6:w6.heap.size=w.heap.size+1+1+1+1+1+1:=by rw[MN,e5]
 have e7:w7.heap.size=w.heap.size+1+1+1+1+1+1+1:=by rw[Wl,e6]
 have e8:w8.heap.size=w.heap.size+1+1+1+1+1+1+1+1:=by rw[MM,e7]
 have d8:cE w8 w8:=af _ _;have d7:cE w7 w8:=Ii.trans (d8.mono Ii.size);have d6:cE w6 w8:=nY.trans (d7.mono nY.size);have d5:cE w5 w8:=uE.trans (d6.mono uE.size);have d4:cE w4 w8:=jz.trans (d5.mono jz.size);have d3:cE w3 w8:=hb4.trans (d4.mono hb4.size);have d2:cE w2 w8:=eO.trans (d3.mono eO.size);have d1:cE w1 w8:=dI.trans (d2.mono dI.size);refine⟨w8,by rw[uC,pI,mU,nI,lP,kJ,fH,hw1],dB.trans (d1.mono dB.size),e8,fun w' hk=>?_⟩;have hc:∀(B c:Nat) (v:aF),B<w.heap.size+1+1+1+1+1+1+1+1→w8.cell? ⟨B,c,none⟩=some v→w'.cell? ⟨B,c,none⟩=some v:=fun B c v hB h=>(hk.cell (p:=⟨B,c,none⟩) (by show B<w8.heap.size;omega) (fun e=>by have e:B=w.heap.size+1+1+1+1+1+1+1+1:=e;omega)).trans h
 exact⟨hc _ _ _ cK (by exact kP w8 d1 0 _ rfl),hc _ _ _ cK (by exact kP w8 d1 1 _ rfl),hc _ _ _ cK (by exact kP w8 d1 2 _ rfl),hc _ _ _ cK (by rw[←e1];exact hr2 w8 d2 0 _ rfl),hc _ _ _ cK (by rw[←e1];exact hr2 w8 d2 1 _ rfl),hc _ _ _ cK (by rw[←e1];exact hr2 w8 d2 2 _ rfl),hc _ _ _ cK (by rw[←e2];exact DD w8 d3 0 _ rfl),hc _ _ _ cK (by rw[←e2];exact DD w8 d3 1 _ rfl),hc _ _ _ cK (by rw[←e2];exact DD w8 d3 2 _ rfl),hc _ _ _ cK (by rw[←e3];exact UI w8 d4 0 _ rfl),hc _ _ _ cK (by rw[←e3];exact UI w8 d4 1 _ rfl),hc _ _ _ cK (by rw[←e3];exact UI w8 d4 2 _ rfl),hc _ _ _ cK (by rw[←e4];exact Wn w8 d5 0 _ rfl),hc _ _ _ cK (by rw[←e4];exact Wn w8 d5 1 _ rfl),hc _ _ _ cK (by rw[←e4];exact Wn w8 d5 2 _ rfl),hc _ _ _ cK (by rw[←e5];exact Qp w8 d6 0 _ rfl),hc _ _ _ cK (by rw[←e5];exact Qp w8 d6 1 _ rfl),hc _ _ _ cK (by rw[←e5];exact Qp w8 d6 2 _ rfl),hc _ _ _ cK (by rw[←e6];exact hr7 w8 d7 0 _ rfl),hc _ _ _ cK (by rw[←e6];exact hr7 w8 d7 1 _ rfl),hc _ _ _ cK (by rw[←e6];exact hr7 w8 d7 2 _ rfl),hc _ _ _ cK (by rw[←e7];exact hr8 w8 d8 0 _ rfl),hc _ _ _ cK (by rw[←e7];exact hr8 w8 d8 1 _ rfl),hc _ _ _ cK (by rw[←e7];exact hr8 w8 d8 2 _ rfl)⟩
theorem VL{k:Nat}(h:9<k)(a b c d e f g i j:aF):dL k [(1,a),(2,b),(3,c),(4,d),(5,e),(6,f),(7,g),(8,i),(9,j)]=none:=by
 simp only[dL];rw[if_neg cK,if_neg cK,if_neg cK,if_neg cK,if_neg cK,if_neg cK,if_neg cK,if_neg cK,if_neg cK]
theorem Dv(w:ah):aV prog 59 #[] w fun e w'=>∃mb,e=.returned (.map (some mb))∧FH w' w.heap.size mb∧w.heap.size≤mb∧cE w w':=by
 have UM:=@run_makeMap prog;obtain⟨w8,uC,hB8,MM,CF⟩:=Hr w;have Ui:dS prog 5 oK id (w8.alloc (.map #[] 0)) (w.heap.size+1+1+1+1+1+1+1+1) ([]:List (Nat×aF)):=by rw[←MM];exact dS.made _ _ _ _ w8
 have K0:cQ (·=w.heap.size+1+1+1+1+1+1+1+1) w8 (w8.alloc (.map #[] 0)):=dA (cT (af _ w8) _);have HC:=cD CF;have Ee:=cD (cC hB8 MM);have HK0:=cD K0;clear CF K0 hB8 MM;go_enter func59,ntmps59
 go_wp2_with (first
  |(rw[←uC];refine dH (P:=prog) (k:=5) (fk:=oK) (fv:=id) (Ui.of_block (aC _ _ _ Ui.lt)) iZ eN underlying130 rfl (.tmp 17) (.const (.b 1)) (.tmp 21) rfl rfl 1 (.slice (some ⟨w.heap.size+1+1+1+1+1+1+1+1+1,0,none⟩) 3 3) rfl rfl (l:=.b 1) cN ?_;intro v1 Qf g1;have HG1:=cD g1;have HY1:=cD Qf.lt;have K1:=HK0.out.trans ((dA (S:=(·=w.heap.size+1+1+1+1+1+1+1+1)) (cT (af _ (w8.alloc (.map #[] 0))) (.cells #[.func (.func 123) #[] #[],.func (.func 125) #[] #[],.nilFunc,.func (.func 127) #[] #[],.func (.func 129) #[] #[],.func (.func 131) #[] #[],.func (.func 133) #[] #[],.func (.func 135) #[] #[],.func (.func 137) #[] #[]] 137))).trans g1);have UW:=cD K1;obtain⟨c0,c1,c2,c3,c4,c5,c6,c7,c8,c9,TM,TL,Lz,TK,M9,TJ,TI,TH,TG,PV,Jh,Lw,PU,TF⟩:=HC.out v1 K1;clear g1 K1 Ui)
  |(refine dH (P:=prog) (k:=5) (fk:=oK) (fv:=id) (Qf.of_block (aC _ _ _ Qf.lt)) iZ eN underlying130 rfl (.tmp 17) (.const (.b 2)) (.tmp 23) rfl rfl 2 (.slice (some ⟨v1.heap.size,0,none⟩) 1 1) rfl rfl (l:=.b 2) cN ?_;intro v2 LS g2;have HG2:=cD g2;have HY2:=cD LS.lt;have K2:=UW.out.trans ((dA (S:=(·=w.heap.size+1+1+1+1+1+1+1+1)) (cT (af _ v1) (.cells #[.func (.func 123) #[] #[],.func (.func 125) #[] #[],.nilFunc] 137))).trans g2);have UU:=cD K2;obtain⟨c0,c1,c2,c3,c4,c5,c6,c7,c8,c9,TM,TL,Lz,TK,M9,TJ,TI,TH,TG,PV,Jh,Lw,PU,TF⟩:=HC.out v2 K2;clear g2 K2 Qf)
  |(refine dH (P:=prog) (k:=5) (fk:=oK) (fv:=id) (LS.of_block (aC _ _ _ LS.lt)) iZ eN underlying130 rfl (.tmp 17) (.const (.b 3)) (.tmp 26) rfl rfl 3 (.slice (some ⟨v2.heap.size,0,none⟩) 2 2) rfl rfl (l:=.b 3) cN ?_;intro v3 LQ g3;have HG3:=cD g3;have HY3:=cD LQ.lt;have K3:=UU.out.trans ((dA (S:=(·=w.heap.size+1+1+1+1+1+1+1+1)) (cT (af _ v2) (.cells #[.func (.func 123) #[] #[],.func (.func 125) #[] #[],.nilFunc,.func (.func 127) #[] #[],.func (.func 129) #[] #[],.func (.func 131) #[] #[]] 137))).trans g3);have uz:=cD K3;obtain⟨c0,c1,c2,c3,c4,c5,c6,c7,c8,c9,TM,TL,Lz,TK,M9,TJ,TI,TH,TG,PV,Jh,Lw,PU,TF⟩:=HC.out v3 K3;clear g3 K3 LS)
  |(refine dH (P:=prog) (k:=5) (fk:=oK) (fv:=id) (LQ.of_block (aC _ _ _ LQ.lt)) iZ eN underlying130 rfl (.tmp 17) (.const (.b 4)) (.tmp 28) rfl rfl 4 (.slice (some ⟨v3.heap.size,0,none⟩) 1 1) rfl rfl (l:=.b 4) cN ?_;intro v4 HM4 g4;have HG4:=cD g4;have HY4:=cD HM4.lt;have K4:=uz.out.trans ((dA (S:=(·=w.heap.size+1+1+1+1+1+1+1+1)) (cT (af _ v3) (.cells #[.func (.func 139) #[] #[],.func (.func 140) #[] #[],.func (.func 142) #[] #[]] 137))).trans g4);have HK4:=cD K4;obtain⟨c0,c1,c2,c3,c4,c5,c6,c7,c8,c9,TM,TL,Lz,TK,M9,TJ,TI,TH,TG,PV,Jh,Lw,PU,TF⟩:=HC.out v4 K4;clear g4 K4 LQ)
  |(refine dH (P:=prog) (k:=5) (fk:=oK) (fv:=id) (HM4.of_block (aC _ _ _ HM4.lt)) iZ eN underlying130 rfl (.tmp 17) (.const (.b 5)) (.tmp 32) rfl rfl 5 (.slice (some ⟨v4.heap.size,0,none⟩) 3 3) rfl rfl (l:=.b 5) cN ?_;intro v5 Qe g5;have HG5:=cD g5;have HY5:=cD Qe.lt;have K5:=HK4.out.trans ((dA (S:=(·=w.heap.size+1+1+1+1+1+1+1+1)) (cT (af _ v4) (.cells #[.func (.func 148) #[] #[],.func (.func 150) #[] #[],.func (.func 152) #[] #[],.func (.func 153) #[] #[],.func (.func 154) #[] #[],.nilFunc,.func (.func 156) #[] #[],.func (.func 158) #[] #[],.func (.func 160) #[] #[]] 137))).trans g5);have HK5:=cD K5;obtain⟨c0,c1,c2,c3,c4,c5,c6,c7,c8,c9,TM,TL,Lz,TK,M9,TJ,TI,TH,TG,PV,Jh,Lw,PU,TF⟩:=HC.out v5 K5;clear g5 K5 HM4)
  |(refine dH (P:=prog) (k:=5) (fk:=oK) (fv:=id) (Qe.of_block (aC _ _ _ Qe.lt)) iZ eN underlying130 rfl (.tmp 17) (.const (.b 6)) (.tmp 35) rfl rfl 6 (.slice (some ⟨v5.heap.size,0,none⟩) 2 2) rfl rfl (l:=.b 6) cN ?_;intro v6 Xp g6;have Uk:=cD g6;have HY6:=cD Xp.lt;have K6:=HK5.out.trans ((dA (S:=(·=w.heap.size+1+1+1+1+1+1+1+1)) (cT (af _ v5) (.cells #[.func (.func 148) #[] #[],.func (.func 150) #[] #[],.func (.func 152) #[] #[],.func (.func 153) #[] #[],.func (.func 154) #[] #[],.nilFunc] 137))).trans g6);have HK6:=cD K6;obtain⟨c0,c1,c2,c3,c4,c5,c6,c7,c8,c9,TM,TL,Lz,TK,M9,TJ,TI,TH,TG,PV,Jh,Lw,PU,TF⟩:=HC.out v6 K6;clear g6 K6 Qe)
  |(refine dH (P:=prog) (k:=5) (fk:=oK) (fv:=id) (Xp.of_block (aC _ _ _ Xp.lt)) iZ eN underlying130 rfl (.tmp 17) (.const (.b 7)) (.tmp 37) rfl rfl 7 (.slice (some ⟨v6.heap.size,0,none⟩) 1 1) rfl rfl (l:=.b 7) cN ?_;intro v7 HM7 g7;have HG7:=cD g7;have HY7:=cD HM7.lt;have K7:=HK6.out.trans ((dA (S:=(·=w.heap.size+1+1+1+1+1+1+1+1)) (cT (af _ v6) (.cells #[.func (.func 148) #[] #[],.func (.func 150) #[] #[],.func (.func 152) #[] #[]] 137))).trans g7);have Xr:=cD K7;obtain⟨c0,c1,c2,c3,c4,c5,c6,c7,c8,c9,TM,TL,Lz,TK,M9,TJ,TI,TH,TG,PV,Jh,Lw,PU,TF⟩:=HC.out v7 K7;clear g7 K7 Xp)
  |(refine dH (P:=prog) (k:=5) (fk:=oK) (fv:=id) (HM7.of_block (aC _ _ _ HM7.lt)) iZ eN underlying130 rfl (.tmp 17) (.const (.b 8)) (.tmp 40) rfl rfl 8 (.slice (some ⟨v7.heap.size,0,none⟩) 2 2) rfl rfl (l:=.b 8) cN ?_;intro v8 HM8 g8;have HG8:=cD g8;have HY8:=cD HM8.lt;have K8:=Xr.out.trans ((dA (S:=(·=w.heap.size+1+1+1+1+1+1+1+1)) (cT (af _ v7) (.cells #[.func (.func 143) #[] #[],.func (.func 145) #[] #[],.func (.func 147) #[] #[],.func (.func 148) #[] #[],.func (.func 150) #[] #[],.func (.func 152) #[] #[]] 137))).trans g8);have HK8:=cD K8;obtain⟨c0,c1,c2,c3,c4,c5,c6,c7,c8,c9,TM,TL,Lz,TK,M9,TJ,TI,TH,TG,PV,Jh,Lw,PU,TF⟩:=HC.out v8 K8;clear g8 K8 HM7)
  |(refine dH (P:=prog) (k:=5) (fk:=oK) (fv:=id) (HM8.of_block (aC _ _ _ HM8.lt)) iZ eN underlying130 rfl (.tmp 17) (.const (.b 9)) (.tmp 45) rfl rfl 9 (.slice (some ⟨v8.heap.size,0,none⟩) 4 4) rfl rfl (l:=.b 9) cN ?_;intro v9 HM9 g9;have HG9:=cD g9;have HY9:=cD HM9.lt;have K9:=HK8.out.trans ((dA (S:=(·=w.heap.size+1+1+1+1+1+1+1+1)) (cT (af _ v8) (.cells #[.func (.func 143) #[] #[],.func (.func 145) #[] #[],.func (.func 147) #[] #[],.func (.func 148) #[] #[],.func (.func 150) #[] #[],.func (.func 152) #[] #[],.func (.func 153) #[] #[],.func (.func 154) #[] #[],.nilFunc,.func (.func 156) #[] #[],.func (.func 158) #[] #[],.func (.func 160) #[] #[]] 137))).trans g9);have YQ:=cD K9;clear g9 K9 HM8;have HME:=cD HM9;clear HM9)
  |fail)
 go_ret
 clear UM;have T9:=cQ.refl (·=w.heap.size+1+1+1+1+1+1+1+1) v9;have T8:=((dA (S:=(·=w.heap.size+1+1+1+1+1+1+1+1)) (cT (af _ v8) (.cells #[.func (.func 143) #[] #[],.func (.func 145) #[] #[],.func (.func 147) #[] #[],.func (.func 148) #[] #[],.func (.func 150) #[] #[],.func (.func 152) #[] #[],.func (.func 153) #[] #[],.func (.func 154) #[] #[],.nilFunc,.func (.func 156) #[] #[],.func (.func 158) #[] #[],.func (.func 160) #[] #[]] 137))).trans HG9.out).trans T9;have T7:=((dA (S:=(·=w.heap.size+1+1+1+1+1+1+1+1)) (cT (af _ v7) (.cells #[.func (.func 143) #[] #[],.func (.func 145) #[] #[],.func (.func 147) #[] #[],.func (.func 148) #[] #[],.func (.func 150) #[] #[],.func (.func 152) #[] #[]] 137))).trans HG8.out).trans T8;have T6:=((dA (S:=(·=w.heap.size+1+1+1+1+1+1+1+1)) (cT (af _ v6) (.cells #[.func (.func 148) #[] #[],.func (.func 150) #[] #[],.func (.func 152) #[] #[]] 137))).trans HG7.out).trans T7;have T5:=((dA (S:=(·=w.heap.size+1+1+1+1+1+1+1+1)) (cT (af _ v5) (.cells #[.func (.func 148) #[] #[],.func (.func 150) #[] #[],.func (.func 152) #[] #[],.func (.func 153) #[] #[],.func (.func 154) #[] #[],.nilFunc] 137))).trans Uk.out).trans T6;have T4:=((dA (S:=(·=w.heap.size+1+1+1+1+1+1+1+1)) (cT (af _ v4) (.cells #[.func (.func 148) #[] #[],.func (.func 150) #[] #[],.func (.func 152) #[] #[],.func (.func 153) #[] #[],.func (.func 154) #[] #[],.nilFunc,.func (.func 156) #[] #[],.func (.func 158) #[] #[],.func (.func 160) #[] #[]] 137))).trans HG5.out).trans T5;have T3:=((dA (S:=(·=w.heap.size+1+1+1+1+1+1+1+1)) (cT (af _ v3) (.cells #[.func (.func 139) #[] #[],.func (.func 140) #[] #[],.func (.func 142) #[] #[]] 137))).trans HG4.out).trans T4;have T2:=((dA (S:=(·=w.heap.size+1+1+1+1+1+1+1+1)) (cT (af _ v2) (.cells #[.func (.func 123) #[] #[],.func (.func 125) #[] #[],.nilFunc,.func (.func 127) #[] #[],.func (.func 129) #[] #[],.func (.func 131) #[] #[]] 137))).trans HG3.out).trans T3;have T1:=((dA (S:=(·=w.heap.size+1+1+1+1+1+1+1+1)) (cT (af _ v1) (.cells #[.func (.func 123) #[] #[],.func (.func 125) #[] #[],.nilFunc] 137))).trans HG2.out).trans T2
 have MM:=Ee.out.2;have e9:(w8.alloc (.map #[] 0)).heap.size=w.heap.size+1+1+1+1+1+1+1+1+1:=by simp[MM]
 have r1:=((nP.new (w8.alloc (.map #[] 0)) w.heap.size (by have:=e9;omega) (fq 1)).kept HG1.out (fun e=>by have e:(w8.alloc (.map #[] 0)).heap.size=w.heap.size+1+1+1+1+1+1+1+1:=e;omega)).kept T1 (fun e=>by have e:(w8.alloc (.map #[] 0)).heap.size=w.heap.size+1+1+1+1+1+1+1+1:=e;omega);have r2:=((nP.new v1 w.heap.size (by have:=HY1.out;omega) (fq 2)).kept HG2.out (fun e=>by have e:v1.heap.size=w.heap.size+1+1+1+1+1+1+1+1:=e;have:=HY1.out;omega)).kept T2 (fun e=>by have e:v1.heap.size=w.heap.size+1+1+1+1+1+1+1+1:=e;have:=HY1.out;omega);have r3:=((nP.new v2 w.heap.size (by have:=HY2.out;omega) (fq 3)).kept HG3.out (fun e=>by have e:v2.heap.size=w.heap.size+1+1+1+1+1+1+1+1:=e;have:=HY2.out;omega)).kept T3 (fun e=>by have e:v2.heap.size=w.heap.size+1+1+1+1+1+1+1+1:=e;have:=HY2.out;omega);have r4:=((nP.new v3 w.heap.size (by have:=HY3.out;omega) (fq 4)).kept HG4.out (fun e=>by have e:v3.heap.size=w.heap.size+1+1+1+1+1+1+1+1:=e;have:=HY3.out;omega)).kept T4 (fun e=>by have e:v3.heap.size=w.heap.size+1+1+1+1+1+1+1+1:=e;have:=HY3.out;omega);have r5:=((nP.new v4 w.heap.size (by have:=HY4.out;omega) (fq 5)).kept HG5.out (fun e=>by have e:v4.heap.size=w.heap.size+1+1+1+1+1+1+1+1:=e;have:=HY4.out;omega)).kept T5 (fun e=>by have e:v4.heap.size=w.heap.size+1+1+1+1+1+1+1+1:=e;have:=HY4.out;omega);have r6:=((nP.new v5 w.heap.size (by have:=HY5.out;omega) (fq 6)).kept Uk.out (fun e=>by have e:v5.heap.size=w.heap.size+1+1+1+1+1+1+1+1:=e;have:=HY5.out;omega)).kept T6 (fun e=>by have e:v5.heap.size=w.heap.size+1+1+1+1+1+1+1+1:=e;have:=HY5.out;omega);have r7:=((nP.new v6 w.heap.size (by have:=HY6.out;omega) (fq 7)).kept HG7.out (fun e=>by have e:v6.heap.size=w.heap.size+1+1+1+1+1+1+1+1:=e;have:=HY6.out;omega)).kept T7 (fun e=>by have e:v6.heap.size=w.heap.size+1+1+1+1+1+1+1+1:=e;have:=HY6.out;omega);have r8:=((nP.new v7 w.heap.size (by have:=HY7.out;omega) (fq 8)).kept HG8.out (fun e=>by have e:v7.heap.size=w.heap.size+1+1+1+1+1+1+1+1:=e;have:=HY7.out;omega)).kept T8 (fun e=>by have e:v7.heap.size=w.heap.size+1+1+1+1+1+1+1+1:=e;have:=HY7.out;omega)
 have r9:=((nP.new v8 w.heap.size (by have:=HY8.out;omega) (fq 9)).kept HG9.out (fun e=>by have e:v8.heap.size=w.heap.size+1+1+1+1+1+1+1+1:=e;have:=HY8.out;omega)).kept T9 (fun e=>by have e:v8.heap.size=w.heap.size+1+1+1+1+1+1+1+1:=e;have:=HY8.out;omega);rw[e9] at r1;have b8:=Ee.out.1;have hsz:=b8.size;refine⟨_,rfl,⟨_,HME.out,fun k=>⟨fun hk=>?_,fun hk=>?_⟩⟩,by omega,b8.trans ((YQ.out).below cK (fun k e=>by have e:k=w.heap.size+1+1+1+1+1+1+1+1:=e;omega))⟩
 ·unfold kindOk at hk
  simp at hk;obtain rfl|rfl|rfl|rfl|rfl|rfl|rfl|rfl|rfl:=(by omega:k=1∨k=2∨k=3∨k=4∨k=5∨k=6∨k=7∨k=8∨k=9)
  ·exact⟨_,rfl,r1⟩
  ·exact⟨_,rfl,r2⟩
  ·exact⟨_,rfl,r3⟩
  ·exact⟨_,rfl,r4⟩
  ·exact⟨_,rfl,r5⟩
  ·exact⟨_,rfl,r6⟩
  ·exact⟨_,rfl,r7⟩
  ·exact⟨_,rfl,r8⟩
  exact⟨_,rfl,r9⟩
 unfold kindOk at hk;have:k=0∨9<k:=by simp at hk;omega
 rcases this with rfl|h9
 ·rfl
 exact VL h9 _ _ _ _ _ _ _ _ _
end
section
open Go.RowKit Go.Shelf Go.MapKept Go.ChangeMaps
attribute [local go_sem] jk jj
theorem Pt.L8(p:Pt):p.Cf=.nilFunc∨∃f,p.Cf=.func (.func f) #[] #[]:=by cases p<;>first|exact .inl rfl|exact .inr ⟨_,rfl⟩
theorem Pt.KT(p:Pt):∀args w,(callFunc p.CA args).run prog w=.ok (.enter p.CA args) w:=by
 cases p with
 |client=>exact au func123 cJ rfl
 |owner=>exact au func127 cJ rfl
 |op=>exact au func133 cJ rfl
 |item=>exact au func139 cJ rfl
 |dy=>exact au func143 cJ rfl
 |place=>exact au func148 cJ rfl
 |epoch=>exact au func153 cJ rfl
 |de=>exact au func156 cJ rfl
theorem Pt.KW(p:Pt):∀args w,(callFunc p.qI args).run prog w=.ok (.enter p.qI args) w:=by
 cases p with
 |client=>exact au func125 cJ rfl
 |owner=>exact au func129 cJ rfl
 |op=>exact au func135 cJ rfl
 |item=>exact au func140 cJ rfl
 |dy=>exact au func145 cJ rfl
 |place=>exact au func150 cJ rfl
 |epoch=>exact au func154 cJ rfl
 |de=>exact au func158 cJ rfl
theorem tV(k:Nat):(fq k).length≤4:=by
 unfold fq;split<;>decide
def oH(X:jA)(l:List Pt):cO:=l.flatMap (·.put X)
theorem yq{X:jA}{l:List Pt}{k:Nat}{p:Pt}(h:l[k]?=some p):oH X (l.take (k+1))=oH X (l.take k)++p.put X:=by
 unfold oH;exact ju _ h
def YD(w:ah)(xb:Nat)(X:jA):Prop:=∀(p:Pt) (W:ah) (ao:Option aS) (nb c:Nat) (B:cO),cE w W→BytesIn W ao nb c B→(B++p.put X).length≤100000000→
 aV prog p.CA #[.slice ao nb c,.p xb] W (fe W (B++p.put X))
theorem Q2(w:ah)(xb:Nat)(X:jA)(hk:X.kind<256)(x0:w.cell? ⟨xb,0,none⟩=some (.b (X.kind:Int)))(v:aF){base:Nat}(hv:nP w base v (fq X.kind))(HP:YD w xb X)(hl:(jg X).length≤100000000):
  aV prog 62 #[.p xb,v] w (fe w (jg X)):=by
 obtain⟨g,rfl,hg,hrow⟩:=hv;have HB:=cD (nN w (ao:=none) (nb:=0) (c:=0) (B:=[]) ⟨rfl,IL _ _⟩ cM X.kind hk);have HR:=cD (cC hg.2 hrow);have HQ:=cD HP;have ht:jg X=dw 1 X.kind++oH X (fq X.kind):=rfl;rw[ht] at hl⊢;have HL:=cD hl;have ZT:xb<w.heap.size:=World.block_lt_of_cell? _ _ x0;have Jc:=tV X.kind;generalize fq X.kind=l at HR HL Jc⊢;obtain⟨N,hN⟩:=cF l.length;have HN:=cD hN;rw[←hN] at Jc⊢;clear hg hrow HP ht hl hN hk;go_enter func62,ntmps62
 go_wp2_with fail
 refine HB.out.mono ?_;rintro e w1 ⟨a1,n1,c1,rfl,h1⟩;have H1:Hid (iJ w (dw 1 X.kind) a1 n1 c1 w1):=cD (h1.cast rfl);clear h1 x0;go_wp2
 go_loopw [5,15] (fun bv kv wr=>∃(k:Nat) (a:Option aS) (n c:Nat),k≤N∧kv=.i k∧bv=.slice a n c∧Hid (iJ w (dw 1 X.kind++oH X (l.take k)) a n c wr)) (fun _ kv _=>N - (intOf kv).toNat)
 case atStart=>exact⟨0,a1,n1,c1,by omega,rfl,rfl,cD (H1.out.cast (by simp[oH]))⟩
 obtain⟨k,a,n,c,hk,rfl,rfl,HS⟩:=hrel;by_cases hlt:k<N
 ·obtain⟨p,hx⟩:∃p,l[k]?=some p:=⟨_,aj (by rw[←HN.out];exact hlt)⟩
  have hrw:=dR (HR.out.2 k p hx) HS.out.bl HR.out.1;have hlen:(dw 1 X.kind++oH X (l.take k)++p.put X).length≤100000000:=by
   have h1:=HL.out;have h2:(oH X (l.take (k+1))).length≤(oH X l).length:=jQ _ l (k+1);rw[yq hx] at h2;simp only[ag] at h1 h2⊢;omega
  unfold Pt.cells at hrw;have nT:=cD hrw;obtain⟨w2,fH,dI,hs2,hr2⟩:=dX wr [.func (.func p.CA) #[] #[],.func (.func p.qI) #[] #[],p.Cf] 137;have hsz:=HS.out.bl.size;have Qi:=cD (HQ.out p w2 a n c _ (HS.out.bl.trans (dI.mono hsz)) (HS.out.pH.below dI) hlen);have y0:w2.cell? ⟨wr.heap.size,0,none⟩=some (.func (.func p.CA) #[] #[]):=hr2 w2 (af _ _) 0 _ rfl;have FI:=cD (cC dI fH);have fm:Hid (cG 137 3):=cD cJ;have HXK:=cD hx;have FM:=cD HS.out.bl;clear hrw hlen fH dI hr2 hs2 hx;obtain⟨vm,UF⟩:=cF p.Cf;have XK:vm=.nilFunc∨∃f,vm=.func (.func f) #[] #[]:=by rw[UF];exact p.L8
  rw[←UF] at nT FI;clear UF;have DG:=p.KT;rcases XK with rfl|⟨f,rfl⟩
  all_goals
   go_wp2_with (first
    |(refine aX rfl 137 (.tmp 17) rfl g (k*3) rfl [.func (.func p.CA) #[] #[],.func (.func p.qI) #[] #[],_] _ nT.out underlying137 rfl fm.out ?_)
    |(rw[←FI.out.2]))
   refine Qi.out.mono ?_;rintro e w3 ⟨a3,n3,c3,rfl,h1⟩;have H3:Hid (iJ w (dw 1 X.kind++oH X (l.take (k+1))) a3 n3 c3 w3):=cD (((h1.trans FI.out.1).trans FM.out).cast (by rw[yq HXK.out,aa]));clear h1;go_wp2
   go_roundw
   case rel=>exact⟨k+1,a3,n3,c3,by omega,by go_num,rfl,H3⟩
   case measure=>simp[intOf];omega
 obtain rfl:N=k:=by omega
 have t1:decide ((N:Int)<(N:Int))=false:=by simp
 have t2:decide (N<N)=false:=by simp
 clear hlt hk;go_wp2
 go_ret
 exact⟨a,n,c,rfl,HS.out.cast (by rw[bF (by rw[←HN.out];exact aE _)])⟩
def iA(kind oE req:Nat)(os:Int)(on:Nat)(o:di)(x:fW)(i:ei)(dy dO:Int)(ep:Nat)(fa:Option aS)(fn fc:Nat):List aF:=
 [.b (kind:Int),.u (oE:Int),.u (req:Int),.i os,.u (on:Int),.b o.kind,.s o.cW,.slice o.da o.dn o.dc,.i o.gW,.bool o.seq,.bool o.mV,.slice o.pa o.pn o.pc,
  .i x.ew,.v (x.seq:Int),.i x.dO,.v (x.ep:Int),.slice i.sa x.de.length i.sc,.slice i.ea x.dF.length i.ec,.u (x.cl:Int),.i dy,.i dO,.v (ep:Int),.slice fa fn fc]
def fV.cells(v:fV)(o:di)(i:ei)(fa:Option aS)(fc:Nat):List aF:=iA v.kind v.oE v.req v.os v.on o v.eu i v.dy v.dO v.ep fa v.fr.length fc
structure yc(w:ah)(lo:Nat→Prop)(v:fV)(o:di)(L:List di)(i:ei)(E:List dr)(fa:Option aS):Prop where
 leaf:fo w lo o v.op
 pn:o.pn=L.length
 like:nQ w lo L v.parts
 row:∀(k:Nat) q,L[k]?=some q→∃g,o.pa=some ⟨g,0,none⟩∧lo g∧g<w.heap.size∧w.rangeAt g (k*7) q.cells
 eu:ez w lo i E v.eu
 fr:dK w lo fa v.fr
theorem ez.Dw{w1 w2:ah}{lo:Nat→Prop}{r:ei}{L:List dr}{x:fW}{S:Nat→Prop}(h:ez w1 lo r L x)(hk:cQ S w1 w2)(hS:∀b,lo b→b<w1.heap.size→¬S b):ez w2 lo r L x:=by
 refine⟨h.de.kept hk hS,⟨h.like.1,fun k q e h1 h2=>?_⟩,fun k q hq=>?_,h.new⟩
 ·obtain⟨g1,g2,g3⟩:=h.like.2 k q e h1 h2
  exact⟨g1,g2,g3.num,g3.len,(g3.data.kept hk (aE _) (fun b hb hlt _=>hS b hb hlt)).mono (fun _ h=>h) hk.size,g3.nil⟩
 obtain⟨b,off,e1,e2,e3⟩:=h.row k q hq;exact⟨b,off,e1,aK e2 hk.size,fun j v hv=>(hk.cell (p:=⟨b,off+k*11+j,none⟩) e2 (hS b (h.new _ e1) e2)).trans (e3 j v hv)⟩
theorem yc.Dw{w w':ah}{lo S:Nat→Prop}{v:fV}{o:di}{L:List di}{i:ei}{E:List dr}{fa:Option aS}(h:yc w lo v o L i E fa)(hk:cQ S w w')(hn:∀b,lo b→b<w.heap.size→¬S b):yc w' lo v o L i E fa:=
 ⟨h.leaf.dZ hk hn,h.pn,h.like.dZ hk hn,fun k q hq=>by
  obtain⟨g,h1,h2,h3,h4⟩:=h.row k q hq;exact⟨g,h1,h2,aK h3 hk.size,fun j u hu=>(hk.cell (p:=⟨g,k*7+j,none⟩) h3 (hn g h2 h3)).trans (h4 j u hu)⟩,h.eu.Dw hk hn,h.fr.kept hk hn⟩
theorem yc.kept{w w':ah}{lo S:Nat→Prop}{v:fV}{o:di}{L:List di}{i:ei}{E:List dr}{fa:Option aS}(h:yc w lo v o L i E fa)(hk:cQ S w w')(hn:∀b,lo b→¬S b):yc w' lo v o L i E fa:=h.Dw hk (fun b hb _=>hn b hb)
theorem yc.mono{w:ah}{lo lo':Nat→Prop}{v:fV}{o:di}{L:List di}{i:ei}{E:List dr}{fa:Option aS}(h:yc w lo v o L i E fa)(hl:∀b,lo b→lo' b):yc w lo' v o L i E fa:=
 ⟨h.leaf.both (fun b hb _=>hl b hb),h.pn,h.like.both (fun b hb _=>hl b hb),fun k q hq=>by
  obtain⟨g,h1,h2,h3,h4⟩:=h.row k q hq;exact⟨g,h1,hl g h2,h3,h4⟩,h.eu.mono hl,h.fr.mono (fun b _ hb=>hl b hb)⟩
structure kW(w0 w:ah)(rb xb:Nat)(r:Rd)(v:fV):Prop where
 rd:eZ w rb r
 lt:rb<xb
 ZG:w0.heap.size≤rb
 box:∃o L i E fa fc,w.heap[xb]?=some (.cells (v.cells o i fa fc).toArray 42 (0,0))∧yc w (fun b=>w0.heap.size≤b∧b≠rb∧b≠xb) v o L i E fa
 bl:cE w0 w
theorem kW.below{w0 w w':ah}{rb xb:Nat}{r:Rd}{v:fV}(h:kW w0 w rb xb r v)(hb:cE w w'):kW w0 w' rb xb r v:=by
 obtain⟨o,L,i,E,fa,fc,h1,h2⟩:=h.box;exact⟨h.rd.below hb,h.lt,h.ZG,⟨o,L,i,E,fa,fc,(hb.block xb (aO h1)).trans h1,h2.kept (S:=zP) (dA hb) (fun _ _ e=>e)⟩,h.bl.trans (hb.mono h.bl.size)⟩
theorem pO{B:Nat}{t:TypeId}{fr:Nat×Nat}:∀(vs:List aF) (o:Nat) (w:ah) (cs:List aF),w.heap[B]?=some (.cells cs.toArray t fr)→o+vs.length≤cs.length→(w.setCells B o vs).heap[B]?=some (.cells (cs.take o++vs++cs.drop (o+vs.length)).toArray t fr)
 |[],o,w,cs,h,hl=>by
  simp only[aP,bz,Nat.add_zero,List.take_append_drop];exact h
 |v::r,o,w,cs,h,hl=>by
  have h1:(w.setCell ⟨B,o,none⟩ v).heap[B]?=some (.cells (cs.set o v).toArray t fr):=by
   simp[World.setCell,Array.getElem?_modify,h]
  have h2:=pO r (o+1) (w.setCell ⟨B,o,none⟩ v) (cs.set o v) h1 (by simp at hl⊢;omega);have ho:o<cs.length:=by simp at hl;omega
  have h3:(cs.set o v).take (o+1)=cs.take o++[v]:=by
   rw[bK,List.take_set_of_le (aE o)];simp[ho]
  have h4:(cs.set o v).drop (o+1+r.length)=cs.drop (o+(v::r).length):=by
   rw[List.drop_set_of_lt cK,aZ,show o+1+r.length=o+(r.length+1) by omega]
  rw[h3,h4,aa (cs.take o)] at h2;exact h2
theorem kW.set{w0 w w1:ah}{rb xb:Nat}{r r':Rd}{v v':fV}{o:di}{i:ei}{fa:Option aS}{fc:Nat}{o':di}{L':List di}{i':ei}{E':List dr}{Qz:Option aS}{Tg:Nat}(h:kW w0 w rb xb r v)(hb:w.heap[xb]?=some (.cells (v.cells o i fa fc).toArray 42 (0,0)))(hr:eZ w1 rb r')(hk:cQ (·=rb) w w1)(off:Nat)(cs:List aF)(ho:off+cs.length≤23)
  (hc:(v.cells o i fa fc).take off++cs++(v.cells o i fa fc).drop (off+cs.length)=v'.cells o' i' Qz Tg) (hd:yc w1 (fun b=>w0.heap.size≤b∧b≠rb∧b≠xb) v' o' L' i' E' Qz):kW w0 (w1.setCells xb off cs) rb xb r' v':=by
 have hlt:=h.lt;have K:cQ (·=xb) w1 (w1.setCells xb off cs):=iw w1 xb off cs;have dB:w1.heap[xb]?=some (.cells (v.cells o i fa fc).toArray 42 (0,0)):=(hk.block xb (aO hb) (fun e=>by have e:xb=rb:=e;omega)).trans hb;have h2:=pO cs off w1 _ dB (by simpa [fV.cells,iA] using ho);rw[hc] at h2;refine⟨hr.kept K (fun b hb e=>by have e:b=xb:=e;omega),h.lt,h.ZG,⟨o',L',i',E',Qz,Tg,h2,hd.kept K (fun b hb=>hb.2.2)⟩,?_⟩;have h3:cE w0 w1:=h.bl.trans (hk.below h.bl.size (fun k e=>by have:=h.ZG;have e:k=rb:=e;omega));exact h3.trans (K.below h3.size (fun k e=>by have:=h.ZG;have e:k=xb:=e;omega))
theorem rD{w0 w:ah}{rb xb:Nat}{r r':Rd}{v v':fV}{e:bM}{w':ah}{off:Nat}{cs:List aF}(h:kW w0 w rb xb r v)(hg:zF w rb xb off cs r' w')(ho:off+cs.length≤23)
  (hc:∀o i fa fc,(v.cells o i fa fc).take off++cs++(v.cells o i fa fc).drop (off+cs.length)=v'.cells o i fa fc) (h1:v'.op=v.op) (h2:v'.parts=v.parts) (h3:v'.eu=v.eu) (h4:v'.fr=v.fr):kW w0 w' rb xb r' v':=by
 obtain⟨o,L,i,E,fa,fc,hb,hd⟩:=h.box;obtain⟨w1,hr,hk,rfl⟩:=hg;have vQ:=hd.kept hk (fun b hb=>hb.2.1);exact h.set hb hr hk off cs ho (hc o i fa fc) ⟨by rw[h1];exact vQ.leaf,vQ.pn,by rw[h2];exact vQ.like,vQ.row,by rw[h3];exact vQ.eu,by rw[h4];exact vQ.fr⟩
section
variable{w0 w:World}{rb xb:Nat}{r r':Rd}{v:fV}{w':World}
theorem JK(h:kW w0 w rb xb r v)(a b:Nat)(hg:zF w rb xb 1 [.u (a:Nat),.u (b:Nat)] r' w'):kW w0 w' rb xb r' {v with oE:=a,req:=b}:=rD (e:=.outgrown) h hg cM (fun _ _ _ _=>rfl) rfl rfl rfl rfl
theorem NU(h:kW w0 w rb xb r v)(a b:Nat)(hg:zF w rb xb 3 [.i (a:Nat),.u (b:Nat)] r' w'):kW w0 w' rb xb r' {v with os:=(a:Nat),on:=b}:=rD (e:=.outgrown) h hg cM (fun _ _ _ _=>rfl) rfl rfl rfl rfl
theorem Rb(h:kW w0 w rb xb r v)(a:Nat)(hg:zF w rb xb 19 [.i (a:Nat)] r' w'):kW w0 w' rb xb r' {v with dy:=(a:Nat)}:=rD (e:=.outgrown) h hg cM (fun _ _ _ _=>rfl) rfl rfl rfl rfl
theorem NT(h:kW w0 w rb xb r v)(a:Int)(hg:zF w rb xb 20 [.i a] r' w'):kW w0 w' rb xb r' {v with dO:=a}:=rD (e:=.outgrown) h hg cM (fun _ _ _ _=>rfl) rfl rfl rfl rfl
theorem NV(h:kW w0 w rb xb r v)(a:Nat)(hg:zF w rb xb 21 [.v (a:Nat)] r' w'):kW w0 w' rb xb r' {v with ep:=a}:=rD (e:=.outgrown) h hg cM (fun _ _ _ _=>rfl) rfl rfl rfl rfl
theorem NS(h:kW w0 w rb xb r v){w1:ah}{a:Option aS}{c:Nat}{V:List Nat}(g1:dK w1 (fU w.heap.size) a V)(g2:eZ w1 rb r')(g3:cQ (·=rb) w w1):kW w0 (w1.setCells xb 22 [.slice a V.length c]) rb xb r' {v with fr:=V}:=by
 have hrb:=h.rd.lt;have hlt:=h.lt;have h0:=h.ZG;obtain⟨o,L,i,E,fa,fc,hb,hd⟩:=h.box;have hxl:=aO hb;have vQ:=hd.kept g3 (fun b hb=>hb.2.1);exact h.set hb g2 g3 22 _ cM (o':=o) (i':=i) (Qz:=a) (Tg:=c) rfl ⟨vQ.leaf,vQ.pn,vQ.like,vQ.row,vQ.eu,g1.mono (fun b _ hb=>by have hb:w.heap.size≤b:=hb;exact⟨by omega,by omega,by omega⟩)⟩
theorem Rc(h:kW w0 w rb xb r v){w1:ah}{q:ei}{E':List dr}{x:fW}(g1:ez w1 (fU w.heap.size) q E' x)(g2:eZ w1 rb r')(g3:cQ (·=rb) w w1):kW w0 (w1.setCells xb 12 (cU x q)) rb xb r' {v with eu:=x}:=by
 have hrb:=h.rd.lt;have hlt:=h.lt;have h0:=h.ZG;obtain⟨o,L,i,E,fa,fc,hb,hd⟩:=h.box;have hxl:=aO hb;have vQ:=hd.kept g3 (fun b hb=>hb.2.1);exact h.set hb g2 g3 12 _ (by simp[cU]) (o':=o) (i':=q) (Qz:=fa) (Tg:=fc) rfl ⟨vQ.leaf,vQ.pn,vQ.like,vQ.row,g1.mono (fun b hb=>by have hb:w.heap.size≤b:=hb;exact⟨by omega,by omega,by omega⟩),vQ.fr⟩
theorem Y9(h:kW w0 w rb xb r v){w1:ah}{q:di}{L':List di}{o:fh}{P:List fh}(g1:fo w1 (fU w.heap.size) q o)(g2:q.pn=L'.length)(g3:nQ w1 (fU w.heap.size) L' P)(g4:∀(k:Nat) x,L'[k]?=some x→∃g,q.pa=some ⟨g,0,none⟩∧w.heap.size≤g∧g<w1.heap.size∧w1.rangeAt g (k*7) x.cells)(g6:eZ w1 rb r')(g7:cQ (·=rb) w w1):kW w0 (w1.setCells xb 5 q.cells) rb xb r' {v with op:=o,parts:=P}:=by
 have hrb:=h.rd.lt;have hlt:=h.lt;have h0:=h.ZG;obtain⟨o0,L,i,E,fa,fc,hb,hd⟩:=h.box;have hxl:=aO hb;have vQ:=hd.kept g7 (fun b hb=>hb.2.1);have hm:∀b,fU w.heap.size b→w0.heap.size≤b∧b≠rb∧b≠xb:=fun b hb=>by have hb:w.heap.size≤b:=hb;exact⟨by omega,by omega,by omega⟩
 exact h.set hb g6 g7 5 _ (by simp[di.cells]) (o':=q) (i':=i) (Qz:=fa) (Tg:=fc) rfl ⟨g1.both (fun b hb _=>hm b hb),g2,g3.both (fun b hb _=>hm b hb),fun k x hx=>by
  obtain⟨g,a1,a2,a3,a4⟩:=g4 k x hx;exact⟨g,a1,hm g a2,a3,a4⟩,vQ.eu,vQ.fr⟩
end
theorem Rs{q q':di}(hq:q.val=q'.val):q=q':=by
 obtain⟨a1,a2,a3,a4,a5,a6,a7,a8,a9,a10,a11⟩:=q;obtain⟨b1,b2,b3,b4,b5,b6,b7,b8,b9,b10,b11⟩:=q';simp[di.val,di.cells] at hq;obtain⟨e1,e2,⟨e3,e4,e5⟩,e6,e7,e8,e9,sD,qo⟩:=hq;have e2:a2=b2:=by
  have:=congrArg (fun x:ByteArray=>x.data.toList) e2;simpa [bs] using this
 subst e1 e2 e3 e4 e5 e6 e7 e8 e9 sD qo;rfl
theorem vI{w w1:ah}{rb xb:Nat}(hk:cQ (·=rb) w w1)(o:Nat)(cs:List aF):cQ (fun b=>b=rb∨b=xb) w (w1.setCells xb o cs):=
 cQ.setCells (S:=fun b=>b=rb∨b=xb) (p:=xb) (.inr rfl) cs o ⟨hk.os,hk.tape,hk.output,hk.size,fun k h1 h2=>hk.block k h1 (fun e=>h2 (.inl e))⟩
theorem pK{w w':ah}{rb xb o:Nat}{cs:List aF}{r:Rd}(h:zF w rb xb o cs r w'):cQ (fun b=>b=rb∨b=xb) w w':=by
 obtain⟨w1,_,hk,rfl⟩:=h;exact vI hk o cs
theorem SZ(p:Pt){w0 w:ah}{rb xb:Nat}{r:Rd}{v:fV}(h:kW w0 w rb xb r v)(hl:r.b.length≤1000000000):
  aV prog p.qI #[.p rb,.p xb] w fun e w'=>e=.returned (.tuple #[])∧kW w0 w' rb xb (p.rd r) (p.get r v)∧cQ (fun b=>b=rb∨b=xb) w w':=by
 obtain⟨o,L,i,E,fa,fc,hb,_⟩:=h.box;have hsz:(v.cells o i fa fc).toArray.size=23:=by simp[fV.cells,iA]
 cases p with
 |client=>
  simp only[Pt.qI,Pt.rd,Pt.get];exact(KJ w rb xb r h.rd h.lt _ _ hb hsz).mono fun e w' ⟨he,hg⟩=>⟨he,JK h _ _ hg,pK hg⟩
 |owner=>
  simp only[Pt.qI,Pt.rd,Pt.get];exact(Pn w rb xb r h.rd h.lt _ _ hb hsz).mono fun e w' ⟨he,hg⟩=>⟨he,NU h _ _ hg,pK hg⟩
 |dy=>
  simp only[Pt.qI,Pt.rd,Pt.get];exact(SY w rb xb r h.rd h.lt _ _ hb hsz).mono fun e w' ⟨he,hg⟩=>⟨he,Rb h _ hg,pK hg⟩
 |place=>
  simp only[Pt.qI,Pt.rd,Pt.get];exact(Pm w rb xb r h.rd h.lt _ _ hb hsz).mono fun e w' ⟨he,hg⟩=>⟨he,NT h _ hg,pK hg⟩
 |epoch=>
  simp only[Pt.qI,Pt.rd,Pt.get];exact(Pp w rb xb r h.rd h.lt _ _ hb hsz).mono fun e w' ⟨he,hg⟩=>⟨he,NV h _ hg,pK hg⟩
 |de=>
  simp only[Pt.qI,Pt.rd,Pt.get];refine(KH w rb xb r h.rd h.lt _ _ hb hsz).mono ?_;rintro e w' ⟨he,a,c,w1,g1,g2,g3,rfl⟩;exact⟨he,NS h g1 g2 g3,vI g3 _ _⟩
 |item=>
  simp only[Pt.qI,Pt.rd,Pt.get];refine(Po w rb xb r h.rd h.lt _ _ hb hsz hl).mono ?_;rintro e w' ⟨he,q,E',w1,g1,g2,g3,rfl⟩;exact⟨he,Rc h g1 g2 g3,vI g3 _ _⟩
 |op=>
 simp only[Pt.qI,Pt.rd,Pt.get];refine(WH w rb xb r h.rd h.lt _ _ hb hsz hl).mono ?_;rintro e w' ⟨he,q,w1,⟨q',L',hq,g1,g2,g3,g4,g5,g6,g7⟩,rfl⟩;obtain rfl:q=q':=Rs (by injection hq);exact⟨he,Y9 h g1 g2 g3 g4 g6 g7,vI g7 _ _⟩
attribute [local go_sem] jk jj
theorem vp{fn:Func}{p u v:Tmp}{ty:TypeId}(h:fn.results=#[.cell p ty,.tmp u,.tmp v])(tmps:Array aF)(P:bJ)(w:ah):
  (results fn tmps).run P w=
   ((asAddr (tmps.getD p undef)).run P w).andThen fun a w₁=>((loadVar ty a).run P w₁).andThen fun x w₂=>.ok (.tuple #[x,tmps.getD u undef,tmps.getD v undef]) w₂:=by
 simp only[results,h];simp[Sem.run_bind,Result.andThen]
theorem o8{P:bJ}{fn:Func}{p u v:Tmp}{ty:TypeId}(h:fn.results=#[.cell p ty,.tmp u,.tmp v])(tmps:Array aF)(w:ah)(b o:Nat)(cs:List aF)(d:TypeDesc)
  (hp:tmps.getD p undef=.pointer (some ⟨b,o,none⟩)) (hc:w.rangeAt b o cs) (hu:P.underlying ty=some d) (hd:d.isRow=true) (hi:(P.info? ty).map (·.size)=some cs.length):
  (results fn tmps).run P w=.ok (.tuple #[.agg cs.toArray,tmps.getD u undef,tmps.getD v undef]) w:=by
 rw[vp h,hp];simp[asAddr,run_loadVar_mid w b o ty cs d hc hu hd hi,Result.andThen]
theorem qO{w w':ah}{B o n:Nat}(h:w.there B o n)(hb:cE w w')(hB:B<w.heap.size):w'.there B o n:=fun j hj=>by
 obtain⟨h1,h2⟩:=h j hj;exact⟨by rw[hb.cell (p:=⟨B,o+j,none⟩) hB];exact h1,((dA (S:=fun _=>False) hb).frozen (p:=⟨B,o+j,none⟩) hB (fun e=>e)).trans h2⟩
structure ajE(w:ah)(base:Nat)(v:aF)(l:List Pt):Prop where
 ex:∃ga n,v=.slice ga n n∧n=l.length∧∀(k:Nat) p,l[k]?=some p→∃g,ga=some ⟨g,0,none⟩∧base≤g∧g<w.heap.size∧w.rangeAt g (k*3) p.cells
theorem ahx{w:ah}{base k:Nat}{v:aF}(h1:kindOk k=true→nP w base v (fq k))(h2:kindOk k=false→v=.n):ajE w base v (fq k):=by
 cases hk:kindOk k with
 |true=>
  obtain⟨g,e,hg,hr⟩:=h1 hk;exact⟨_,_,e,rfl,fun j p hp=>⟨g,rfl,hg.1,hg.2,hr j p hp⟩⟩
 |false=>exact⟨none,0,h2 hk,by rw[De hk];rfl,fun j p hp=>by rw[De hk] at hp;simp at hp⟩
theorem JB{l:List Pt}{k:Nat}{p:Pt}(h:l[k]?=some p)(s:Rd×fV):(l.take (k+1)).foldl iR s=iR ((l.take k).foldl iR s) p:=by
 rw[bK,h,List.foldl_append];rfl
theorem Vc(s:Rd×fV)(p:Pt):(iR s p).1.b.length≤s.1.b.length:=by
 show(p.rd s.1).b.length≤_;cases p with
 |client=>exact aq (Rd.nk _) (Rd.nk _)
 |owner=>exact Rd.Mh _
 |op=>exact aq (Rd.J6 _ _) (aq (Rd.lH _ _) (Rd.EU _))
 |item=>
  simp only[Pt.rd,Rd.item];exact aq (Rd.nk _) (aq (Rd.Fu _ _) (aq (Rd.lH _ _) (aq (Rd.Ab _) (aq (Rd.gS _ _) (aq (Rd.JU _ _) (aq (Rd.gS _ _) (Rd.lW _ _)))))))
 |dy=>exact Rd.lW _ _
 |place=>exact Rd.JU _ _
 |epoch=>exact Rd.gS _ _
 |de=>exact Rd.Ab _
theorem WK(l:List Pt):∀s:Rd×fV,(l.foldl iR s).1.b.length≤s.1.b.length:=by
 induction l with
 |nil=>intro s;exact aE _
 |cons p l ih=>intro s;rw[aU];exact aq (ih _) (Vc s p)
theorem Jq(k:Nat):(fV.zero k).cells ⟨0,[],none,0,0,0,false,false,none,0,0⟩ ⟨none,0,none,0⟩ none 0=[.b (k:Int),.U,.U,.I,.U,.B,.z,.n,.I,.F,.F,.n,.I,.V,.I,.V,.n,.n,.U,.I,.I,.V,.n]:=rfl
theorem Nw(w:ah)(lo:Nat→Prop)(k:Nat):yc w lo (fV.zero k) ⟨0,[],none,0,0,0,false,false,none,0,0⟩ [] ⟨none,0,none,0⟩ [] none:=
 ⟨⟨rfl,rfl,rfl,rfl,rfl,rfl,fun j x h=>by simp[fV.zero,U2] at h,fun _=>⟨rfl,rfl⟩⟩,rfl,⟨rfl,fun k q x h=>by simp at h⟩,fun k q h=>by simp at h,⟨fun k v h=>by simp[fV.zero,mY] at h,⟨rfl,fun k r e h=>by simp at h⟩,fun k r h=>by simp at h,fun ad e=>by cases e⟩,fun k v h=>by simp[fV.zero] at h⟩
def Xe(w:ah)(D:cO)(e:bM)(w':ah):Prop:=∃o i fa fc L E u,e=.returned (.tuple #[.agg ((eM D).cells o i fa fc).toArray,u,.bool (kM D)])∧yc w' (fU w.heap.size) (eM D) o L i E fa∧cE w w'
theorem Gr(w:ah)(ao:Option aS)(c:Nat)(lo:Nat→Prop)(D:cO)(hD:dW w lo ao c D)(hl:D.length≤1000000000):
  aV prog 63 #[.slice ao D.length c] w (Xe w D):=by
 obtain⟨w0,hw0,hb0,hs0,Ib⟩:=dX w [.B,.U,.U,.I,.U,.B,.z,.n,.I,.F,.F,.n,.I,.V,.I,.V,.n,.n,.U,.I,.I,.V,.n] 42;have HN:=cD (Oy w0 ao c lo D (hD.below hb0) hl);have Ud:=cD (cC hw0 (cC hb0 (cC hs0 Ib)));clear hw0 hb0 hs0 Ib;obtain⟨N,hN⟩:=cF D.length;rw[←hN] at HN hl⊢;have HDL:=cD hN;clear hD hN;go_enter func63,ntmps63
 go_wp2_with fail
 rw[←Ud.out.1];refine HN.out.mono ?_;rintro e w1 ⟨rb,rfl,hrb,hR,dB⟩;have H1:=cD (cC hrb (cC hR dB));clear hrb hR dB;go_wp2_with fail
 refine(EC w1 rb ⟨D,false⟩ H1.out.2.1).mono ?_;rintro e w2 ⟨rfl,Jf,hk2⟩;obtain⟨k,hk⟩:=cF ((⟨D,false⟩:Rd).num 1);obtain⟨r1,kP⟩:=cF ((⟨D,false⟩:Rd).take 1);rw[←kP] at Jf;rw[←hk];have vP:k<256:=by rw[hk];exact Rd.RE _
 have HK:=cD (cC hk kP);have H2:=cD (cC Jf hk2);clear hk kP Jf hk2;obtain⟨wz,Kn,hbz,hsz,Ss⟩:=dX w2 [.B,.U,.U,.I,.U,.B,.z,.n,.I,.F,.F,.n,.I,.V,.I,.V,.n,.n,.U,.I,.I,.V,.n] 42;have hbk:wz.heap[w2.heap.size]?=some (.cells #[.B,.U,.U,.I,.U,.B,.z,.n,.I,.F,.F,.n,.I,.V,.I,.V,.n,.n,.U,.I,.I,.V,.n] 42 (0,0)):=by rw[Kn];exact aR w2 _
 have HT:Hid (wz.there w2.heap.size 0 23):=cD (ey hbk 0 23 cM);have fm:Hid (cG 42 23):=cD cJ;have gG:Hid ((#[.b (k:Int),.U,.U,.I,.U,.B,.z,.n,.I,.F,.F,.n,.I,.V,.I,.V,.n,.n,.U,.I,.I,.V,.n]:Array aF).all (·.oneCell')=true):=cD (by simp[aW]);have QB:=cD (cC Kn (cC hbz hbk));clear Kn hbz hsz Ss hbk;go_wp2_with (first|(rw[←QB.out.1];refine aD rfl 42 (.tmp 6) (.tmp 15) rfl w2.heap.size 0 #[.b (k:Int),.U,.U,.I,.U,.B,.z,.n,.I,.F,.F,.n,.I,.V,.I,.V,.n,.n,.U,.I,.I,.V,.n] rfl rfl HT.out fm.out gG.out ?_)|fail)
 have hX:kW w0 (wz.setCells w2.heap.size 0 [.b (k:Int),.U,.U,.I,.U,.B,.z,.n,.I,.F,.F,.n,.I,.V,.I,.V,.n,.n,.U,.I,.I,.V,.n]) rb w2.heap.size r1 (fV.zero k):=by
  obtain⟨_,hbz,hbk⟩:=QB.out;obtain⟨Jf,hk2⟩:=H2.out;obtain⟨hrb,hR,dB⟩:=H1.out;have hrl:=hR.lt;have ah8:=hk2.size;have Ks:=iw wz w2.heap.size 0 [.b (k:Int),.U,.U,.I,.U,.B,.z,.n,.I,.F,.F,.n,.I,.V,.I,.V,.n,.n,.U,.I,.I,.V,.n];have gQ:cE w0 wz:=(dB.trans (hk2.below dB.size (fun b e=>by have e:b=rb:=e;omega))).trans (hbz.mono (by have:=dB.size;omega));refine⟨(Jf.below hbz).kept Ks (fun b hb e=>by have e:b=w2.heap.size:=e;omega),by omega,by omega,⟨⟨0,[],none,0,0,0,false,false,none,0,0⟩,[],⟨none,0,none,0⟩,[],none,0,?_,Nw _ _ _⟩,gQ.trans (Ks.below gQ.size (fun b e=>by have e:b=w2.heap.size:=e;have:=dB.size;omega))⟩;rw[Jq];exact gq hbk rfl
 have hR0:cQ (fun _=>False) w0 w0:=cQ.refl _ _;generalize kJ:wz.setCells w2.heap.size 0 [.b (k:Int),.U,.U,.I,.U,.B,.z,.n,.I,.F,.F,.n,.I,.V,.I,.V,.n,.n,.U,.I,.I,.V,.n]=w3 at hX⊢;obtain⟨xb,ZT⟩:=cF w2.heap.size;rw[←ZT] at hX⊢;have y0:∀w',cE w3 w'→w'.cell? ⟨xb,0,none⟩=some (.b (k:Int)):=fun w' h=>by
  obtain⟨o,L,i,E,fa,fc,h1,_⟩:=(hX.below h).box;rw[cell_of_row _ _ 0 _ 42 (0,0) h1];rfl
 have HX:=cD hX;clear hX kJ hR0 ZT;refine rB fun wd hS=>?_
 refine tI 1 rfl hS ?_;refine tJ 2 rfl hS y0 ?_;simp only[cR];refine cI 0 rfl ?_;refine(Dv _).mono ?_;rintro e w4 ⟨mb,rfl,hK,hmb,hb4⟩;have b4:cE w3 w4:=hS.trans (hb4.mono hS.size);refine⟨b4,?_⟩;simp only[cR];obtain⟨v,sN,qg,Dz⟩:=hK.look k vP;refine NC (S':=fun w'=>cE w4 w') (fun w' h=>b4.trans (h.mono b4.size)) _ _ _ _ ?_;have eV:=af w4.heap.size w4;refine tJ 3 rfl eV sN ?_;refine tI 4 rfl eV ?_;refine tI 5 rfl eV ?_;refine tI 6 rfl eV ?_;simp only[cR];refine tI 7 rfl eV ?_;refine tI 8 rfl eV ?_;simp only[cR];refine bg cJ ?_ _;obtain⟨ga,n,rfl,hn,hrow⟩:=(ahx qg Dz).ex;have hn4:n≤4:=by rw[hn];exact tV k
 have hro:kM D=(kindOk k&&decide (Br ((fq k).foldl iR (r1,fV.zero k)).1=0)):=by
  unfold kM yl;rw[←HK.out.1,←HK.out.2]
 have hrv:eM D=((fq k).foldl iR (r1,fV.zero k)).2:=by
  unfold eM yl;rw[←HK.out.1,←HK.out.2]
 have hrl:r1.b.length≤1000000000:=by
  rw[HK.out.2];refine aq (Rd.gS _ 1) ?_;show D.length≤_;rw[←HDL.out];exact hl
 have hxl:xb<w3.heap.size:=by
  obtain⟨o,L,i,E,fa,fc,h1,_⟩:=HX.out.box;exact aO h1
 have CN:=cD (cC hrow (cC (aK hxl hS.size) HX.out.lt));have HX4:=cD (HX.out.below b4);have HR:=cD (cC hro (cC hrv hrl));have FN:=cD (cC HX.out.bl (HX.out.bl.trans (b4.mono HX.out.bl.size)));clear hrow hro hrv hrl hxl eV sN qg Dz hK hmb hb4 b4 hS y0 vP;generalize fq k=l at CN HR hn;have HNL:=cD hn;clear hn;go_wp2
 go_loopw [25] (fun kv wr=>∃j:Nat,j≤n∧kv=.i j∧Hid (kW w0 wr rb xb ((l.take j).foldl iR (r1,fV.zero k)).1 ((l.take j).foldl iR (r1,fV.zero k)).2∧cQ (fun b=>b=rb∨b=xb) w4 wr)) (fun kv _=>n - (intOf kv).toNat)
 case atStart=>exact⟨0,by omega,rfl,cD ⟨HX4.out,cQ.refl _ _⟩⟩
 obtain⟨j,hj,rfl,HS⟩:=hrel;by_cases hlt:j<n
 ·obtain⟨p,hx⟩:∃p,l[j]?=some p:=⟨_,aj (by rw[←HNL.out];exact hlt)⟩
  obtain⟨g,rfl,SH,AX,hg2⟩:=CN.out.1 j p hx;have hrw:wr.rangeAt g (j*3) p.cells:=fun i u hu=>(HS.out.2.cell (p:=⟨g,j*3+i,none⟩) AX (fun e=>by have:=CN.out.2;rcases e with e|e<;>(have e:g=_:=e;omega))).trans (hg2 i u hu)
  unfold Pt.cells at hrw;have nT:=cD hrw;obtain⟨w5,nI,jz,hs5,Wn⟩:=dX wr [.func (.func p.CA) #[] #[],.func (.func p.qI) #[] #[],p.Cf] 137;have y1:w5.cell? ⟨wr.heap.size,1,none⟩=some (.func (.func p.qI) #[] #[]):=Wn w5 (af _ _) 1 _ rfl;have hfl:(((l.take j).foldl iR (r1,fV.zero k)).1).b.length≤1000000000:=aq (WK _ _) HR.out.2.2;have Qi:=cD (SZ p (HS.out.1.below jz) hfl);have HX5:=cD (cC jz nI);have HSP:Hid (cG 137 3):=cD cJ;have HXK:=cD hx;have DG:=p.KW;obtain⟨vm,UF⟩:=cF p.Cf;have XK:vm=.nilFunc∨∃f,vm=.func (.func f) #[] #[]:=by rw[UF];exact p.L8
  rw[←UF] at nT HX5;clear UF SH AX hg2 hrw nI jz hs5 Wn hfl hx;rcases XK with rfl|⟨f,rfl⟩
  all_goals
   go_wp2_with (first
    |(refine aX rfl 137 (.tmp 27) rfl g (j*3) rfl [.func (.func p.CA) #[] #[],.func (.func p.qI) #[] #[],_] _ nT.out underlying137 rfl HSP.out ?_)
    |(rw[←HX5.out.2]))
   refine Qi.out.mono ?_;rintro e w6 ⟨rfl,h1,h2⟩;have H6:=cD (cC (show kW w0 w6 rb xb ((l.take (j+1)).foldl iR (r1,fV.zero k)).1 ((l.take (j+1)).foldl iR (r1,fV.zero k)).2 by rw[JB HXK.out];exact h1) ((HS.out.2.trans (dA HX5.out.1)).trans h2));clear h1 h2;go_wp2
   go_roundw
   case rel=>exact⟨j+1,by omega,by go_num,H6⟩
   case measure=>simp[intOf];omega
 obtain rfl:n=j:=by omega
 have t1:decide ((n:Int)<(n:Int))=false:=by simp
 have t2:decide (n<n)=false:=by simp
 have zz:l.take n=l:=bF (by rw[←HNL.out];exact aE _);rw[zz] at HS;obtain⟨hro,hrv,_⟩:=HR.out;obtain⟨rE,hrE⟩:=cF ((l.foldl iR (r1,fV.zero k)).1);obtain⟨xv,hxv⟩:=cF (eM D);rw[←hrv,←hrE,←hxv] at HS;rw[←hrE] at hro;have YI:=cD (cC hro hxv);clear hlt hj zz hrv hro hrE hxv HR HX4 CN;obtain⟨o,L,i,E,fa,fc,nJ,hdx⟩:=HS.out.1.box;have hw0:w.heap.size<rb:=by have:=Ud.out.2.2.1;have:=H1.out.1;omega
 have Wh:=HS.out.1.lt;have Ih:=HS.out.1.bl;have hsw:w.heap.size<w0.heap.size:=by have:=Ud.out.2.2.1;omega
 have hT0:wr.there w.heap.size 0 23:=by
  have hb0:w0.heap[w.heap.size]?=some (.cells #[.B,.U,.U,.I,.U,.B,.z,.n,.I,.F,.F,.n,.I,.V,.I,.V,.n,.n,.U,.I,.I,.V,.n] 42 (0,0)):=by rw[Ud.out.1];exact aR w _
  exact ey ((Ih.block _ hsw).trans hb0) 0 23 cM
 have Xl:Hid (∀w',cE wr w'→w'.there w.heap.size 0 23):=cD (fun w' h=>qO hT0 h (by have:=Ih.size;omega));have HD2:=cD (cC nJ (cC hdx (cC hw0 (cC Wh (cC Ih hsw)))));have A7:(xv.cells o i fa fc).length=23:=by simp[fV.cells,iA]
 have hone:((xv.cells o i fa fc).toArray:Array aF).all (·.oneCell')=true:=by simp[fV.cells,iA,aW]
 have Z6:∀w',cQ (·=w.heap.size) wr w'→w'.rangeAt xb 0 (xv.cells o i fa fc):=fun w' hk=>dJ ((hk.block xb (aO nJ) (fun e=>by have e:xb=w.heap.size:=e;omega)).trans nJ)
 have No:=cD HS.out.1.rd;generalize hcs:xv.cells o i fa fc=cs at A7 hone Z6 HD2;have UX:=cD hcs;have HRN:=cD Z6;have I5:=cD A7;have afx:=cD hone;clear hw0 Wh Ih hsw hT0 A7 hone Z6 nJ hdx hcs HS;cases UN:kindOk k with
 |true=>
  rw[UN] at YI;have HE:Hid (cG 42 cs.length):=cD (by rw[I5.out];exact cH);have YT:Hid (cG 42 cs.toArray.size):=cD (by rw[ay,I5.out];exact cH);have Pb:cs.toArray.size=23:=by rw[ay,I5.out]
  have HCZ:=cD Pb;clear Pb;clear UN;go_wp2_with fail
  refine rT fun wd hd=>?_
  refine NC (S':=fun w'=>cQ (·=w.heap.size) wr w') (fun _ _=>trivial) _ _ _ _ ?_;have hS:cQ (·=w.heap.size) wr wd:=dA hd;refine tL 0 rfl hS 42 (.tmp 6) xb 0 cs HRN.out underlying42 HE.out ?_;refine tI 1 rfl hS ?_;refine tI 2 rfl hS ?_;refine tI 3 rfl hS ?_;simp only[cR];refine tI 4 rfl hS ?_;simp only[cR];refine cI 5 rfl ?_;refine(Vt wd rb rE (No.out.below hd)).mono ?_;rintro e w7 ⟨rfl,rfl⟩;refine⟨hS,?_⟩;simp only[cR];refine tI 6 rfl hS ?_;refine tI 7 rfl hS ?_;simp only[cR];have hT8:wd.there w.heap.size 0 cs.toArray.size:=by rw[HCZ.out];exact Xl.out wd hd
  have jP:cQ (·=w.heap.size) wr (wd.setCells w.heap.size 0 cs.toArray.toList):=hS.trans (iw wd w.heap.size 0 _);refine sI 8 rfl 42 (.tmp 2) (.tmp 34) w.heap.size 0 cs.toArray hT8 YT.out afx.out jP ?_;simp only[cR];refine tI 9 rfl jP ?_;refine tI 10 rfl jP ?_;simp only[cR];refine bg cJ ?_ _;have abl:Hid ((wd.setCells w.heap.size 0 cs.toArray.toList).rangeAt w.heap.size 0 cs):=cD (an _ _ _ _ (by have h:=Xl.out wd hd;rw[←I5.out] at h;exact h));have Xm:=cD jP;clear hT8 jP hS hd;go_wp2
  refine bh (o8 rfl _ _ w.heap.size 0 cs _ rfl abl.out underlying42 rfl HE.out) rfl ?_;obtain⟨_,hdx,hw0,Wh,Ih,hsw⟩:=HD2.out;have oL:cE w wr:=Ud.out.2.1.trans (Ih.mono cK);refine⟨o,i,fa,fc,L,E,.slice ga n n,?_,?_,oL.trans (Xm.out.below oL.size (fun b e=>by have e:b=w.heap.size:=e;omega))⟩
  ·rw[←YI.out.2,YI.out.1,UX.out]
   first|rfl|(rw[Bool.true_and,←Yr];rfl)
  rw[←YI.out.2];exact(hdx.kept Xm.out (fun b hb e=>by have e:b=w.heap.size:=e;have:=hb.1;omega)).mono (fun b hb=>by have:=hb.1;show w.heap.size≤b;omega)
 |false=>
 rw[UN] at YI;have HE:Hid (cG 42 cs.length):=cD (by rw[I5.out];exact cH);have YT:Hid (cG 42 cs.toArray.size):=cD (by rw[ay,I5.out];exact cH);have Pb:cs.toArray.size=23:=by rw[ay,I5.out]
 have HCZ:=cD Pb;clear Pb;clear UN;go_wp2_with fail
 refine rT fun wd hd=>?_
 refine NC (S':=fun w'=>cQ (·=w.heap.size) wr w') (fun _ _=>trivial) _ _ _ _ ?_;have hS:cQ (·=w.heap.size) wr wd:=dA hd;refine tL 0 rfl hS 42 (.tmp 6) xb 0 cs HRN.out underlying42 HE.out ?_;refine tI 1 rfl hS ?_;refine tI 2 rfl hS ?_;refine tI 3 rfl hS ?_;simp only[cR];refine tN 4 rfl hS ?_;refine tN 5 rfl hS ?_;refine tN 6 rfl hS ?_;refine tI 7 rfl hS ?_;simp only[cR];have hT8:wd.there w.heap.size 0 cs.toArray.size:=by rw[HCZ.out];exact Xl.out wd hd
 have jP:cQ (·=w.heap.size) wr (wd.setCells w.heap.size 0 cs.toArray.toList):=hS.trans (iw wd w.heap.size 0 _);refine sI 8 rfl 42 (.tmp 2) (.tmp 34) w.heap.size 0 cs.toArray hT8 YT.out afx.out jP ?_;simp only[cR];refine tI 9 rfl jP ?_;refine tI 10 rfl jP ?_;simp only[cR];refine bg cJ ?_ _;have abl:Hid ((wd.setCells w.heap.size 0 cs.toArray.toList).rangeAt w.heap.size 0 cs):=cD (an _ _ _ _ (by have h:=Xl.out wd hd;rw[←I5.out] at h;exact h));have Xm:=cD jP;clear hT8 jP hS hd;go_wp2
 refine bh (o8 rfl _ _ w.heap.size 0 cs _ rfl abl.out underlying42 rfl HE.out) rfl ?_;obtain⟨_,hdx,hw0,Wh,Ih,hsw⟩:=HD2.out;have oL:cE w wr:=Ud.out.2.1.trans (Ih.mono cK);refine⟨o,i,fa,fc,L,E,.slice ga n n,?_,?_,oL.trans (Xm.out.below oL.size (fun b e=>by have e:b=w.heap.size:=e;omega))⟩
 ·rw[←YI.out.2,YI.out.1,UX.out]
  first|rfl|(rw[Bool.true_and,←Yr];rfl)
 rw[←YI.out.2];exact(hdx.kept Xm.out (fun b hb e=>by have e:b=w.heap.size:=e;have:=hb.1;omega)).mono (fun b hb=>by have:=hb.1;show w.heap.size≤b;omega)
def tM:List aF:=(fV.zero 0).cells ⟨0,[],none,0,0,0,false,false,none,0,0⟩ ⟨none,0,none,0⟩ none 0
def abD(w:ah)(D:cO)(e:bM)(w':ah):Prop:=∃cs x,e=.returned (.tuple #[.agg cs.toArray,.i x])∧cE w w'∧
 ((mF D=true∧x=0∧∃o i fa fc L E,cs=(eM D).cells o i fa fc∧yc w' (fU w.heap.size) (eM D) o L i E fa)∨(mF D=false∧x=2∧cs=tM))
theorem jc{w w1 wr:ah}{B:Nat}(hb:cE w wr)(o:Nat)(cs:List aF)(hB:w.heap.size≤B):cE w (wr.setCells B o cs):=
 hb.trans ((iw wr B o cs).below hb.size (fun b e=>by have e:b=B:=e;omega))
theorem Fl(w:ah)(ao:Option aS)(c:Nat)(lo:Nat→Prop)(D:cO)(hD:dW w lo ao c D)(hl:D.length≤1000000000):
  aV prog 66 #[.slice ao D.length c] w (abD w D):=by
 obtain⟨w0,hw0,hb0,hs0,Ib⟩:=dX w [.B,.U,.U,.I,.U,.B,.z,.n,.I,.F,.F,.n,.I,.V,.I,.V,.n,.n,.U,.I,.I,.V,.n] 42;have hz0:w0.heap[w.heap.size]?=some (.cells #[.B,.U,.U,.I,.U,.B,.z,.n,.I,.F,.F,.n,.I,.V,.I,.V,.n,.n,.U,.I,.I,.V,.n] 42 (0,0)):=by rw[hw0];exact aR w _
 have HN:=cD (Gr w0 ao c lo D (hD.below hb0) hl);have Ud:=cD (cC hw0 (cC hb0 (cC hs0 hz0)));clear hw0 hb0 hs0 Ib hz0;obtain⟨N,hN⟩:=cF D.length;have HNL:=cD hN;rw[←hN] at HN hl⊢;clear hD hN;go_enter func66,ntmps66
 go_wp2_with fail
 rw[←Ud.out.1];refine HN.out.mono ?_;rintro e w1 ⟨o,i,fa,fc,L,E,u,rfl,hd,dB⟩;have A7:((eM D).cells o i fa fc).length=23:=by simp[fV.cells,iA]
 have hone:(((eM D).cells o i fa fc).toArray:Array aF).all (·.oneCell')=true:=by simp[fV.cells,iA,aW]
 obtain⟨cs,hcs⟩:=cF ((eM D).cells o i fa fc);rw[←hcs] at A7 hone⊢;obtain⟨wz,Kn,hbz,hsz,Ss⟩:=dX w1 [.B,.U,.U,.I,.U,.B,.z,.n,.I,.F,.F,.n,.I,.V,.I,.V,.n,.n,.U,.I,.I,.V,.n] 42;have hbk:wz.heap[w1.heap.size]?=some (.cells #[.B,.U,.U,.I,.U,.B,.z,.n,.I,.F,.F,.n,.I,.V,.I,.V,.n,.n,.U,.I,.I,.V,.n] 42 (0,0)):=by rw[Kn];exact aR w1 _
 have HT:Hid (wz.there w1.heap.size 0 cs.toArray.size):=cD (ey hbk 0 _ (by rw[ay,A7];simp));have fm:Hid (cG 42 cs.toArray.size):=cD (by rw[ay,A7];exact cH);have I3:Hid (cG 42 cs.length):=cD (by rw[A7];exact cH);have gG:=cD hone;have QB:=cD (cC Kn (cC hbz hbk));have Xt:=cD (cC hd (cC dB (cC hcs A7)));clear hd dB A7 hone Kn hbz hsz Ss hbk;have zy:mF D=(kM D&&decide (N≤4096)):=by unfold mF;rw[HNL.out]
 have YS:=cD zy;clear zy hcs;obtain⟨ok,hok⟩:=cF (kM D);have Nq:=cD hok;rw[←hok];clear hok;have nW:Hid ((wz.setCells w1.heap.size 0 cs.toArray.toList).there w.heap.size 0 23):=cD (by
  obtain⟨_,hb0,hs0,hz0⟩:=Ud.out;have hb:=(Xt.out.2.1.trans (QB.out.2.1.mono Xt.out.2.1.size));have hsz:=Xt.out.2.1.size;have hz:=(hb.block w.heap.size cK).trans hz0;exact ey (((iw wz w1.heap.size 0 cs.toArray.toList).block _ (aO hz) (fun e=>by have e:w.heap.size=w1.heap.size:=e;omega)).trans hz) 0 23 cM)
 have iK:Hid (∀vs,cE w ((wz.setCells w1.heap.size 0 cs.toArray.toList).setCells w.heap.size 0 vs)):=cD (fun vs=>by
  obtain⟨_,hb0,hs0,hz0⟩:=Ud.out;have hb:=hb0.trans ((Xt.out.2.1.trans (QB.out.2.1.mono Xt.out.2.1.size)).mono hb0.size);have:=Xt.out.2.1.size;exact jc (w1:=w) (jc (w1:=w) hb 0 _ cK) 0 _ (aE _))
 have FI:Hid ((wz.setCells w1.heap.size 0 cs.toArray.toList).rangeAt w1.heap.size 0 cs):=cD (an _ _ _ _ (by have h:=HT.out;rw[ay] at h;exact h));have HT2:Hid ((wz.setCells w1.heap.size 0 cs.toArray.toList).there w.heap.size 0 cs.toArray.size):=cD (by rw[show cs.toArray.size=23 by rw[ay,Xt.out.2.2.2]];exact nW.out);have LN:Hid ((wz.setCells w1.heap.size 0 cs.toArray.toList).there w.heap.size 0 cs.length):=cD (by rw[Xt.out.2.2.2];exact nW.out);have Xn:Hid (cG 42 23):=cD cJ;have afv:Hid ((#[.B,.U,.U,.I,.U,.B,.z,.n,.I,.F,.F,.n,.I,.V,.I,.V,.n,.n,.U,.I,.I,.V,.n]:Array aF).all (·.oneCell')=true):=cD (by simp[aW]);cases ok with
 |false=>
  go_wp2_with (first
   |(rw[←QB.out.1];refine aD rfl 42 (.tmp 4) (.tmp 10) rfl w1.heap.size 0 cs.toArray rfl rfl HT.out fm.out gG.out ?_)
   |(refine aD rfl 42 (.tmp 2) (.tmp 20) rfl w.heap.size 0 #[.B,.U,.U,.I,.U,.B,.z,.n,.I,.F,.F,.n,.I,.V,.I,.V,.n,.n,.U,.I,.I,.V,.n] rfl rfl nW.out Xn.out afv.out ?_))
  refine bh (iF rfl _ _ w.heap.size 0 tM _ rfl (an _ _ _ _ nW.out) underlying42 rfl Xn.out) rfl ?_;refine⟨tM,2,rfl,iK.out _,.inr ⟨?_,rfl,rfl⟩⟩;rw[YS.out,←Nq.out];rfl
 |true=>
 by_cases MR:N≤4096
 ·have t1:decide ((4096:Int)<(N:Int))=false:=by simp;omega
  have t2:decide (4096<N)=false:=by simp;omega
  have HLG:=cD MR;clear MR;go_wp2_with (first
   |(rw[←QB.out.1];refine aD rfl 42 (.tmp 4) (.tmp 10) rfl w1.heap.size 0 cs.toArray rfl rfl HT.out fm.out gG.out ?_)
   |(refine aX rfl 42 (.tmp 4) rfl w1.heap.size 0 rfl cs _ FI.out underlying42 rfl I3.out ?_)
   |(refine aD rfl 42 (.tmp 2) (.tmp 21) rfl w.heap.size 0 cs.toArray rfl rfl HT2.out fm.out gG.out ?_))
  refine bh (iF rfl _ _ w.heap.size 0 cs _ rfl (an _ _ _ _ LN.out) underlying42 rfl I3.out) rfl ?_;obtain⟨hd,dB,hcs,A7⟩:=Xt.out;obtain⟨_,hb0,hs0,hz0⟩:=Ud.out;refine⟨cs,0,rfl,iK.out _,.inl ⟨?_,rfl,o,i,fa,fc,L,E,hcs,?_⟩⟩
  ·rw[YS.out,←Nq.out]
   have:=HLG.out;simp[this]
  have aow:=dB.size;have K:=((dA (S:=(·=w.heap.size)) QB.out.2.1).sM (iw wz w1.heap.size 0 cs.toArray.toList) (aE _)).trans (iw (wz.setCells w1.heap.size 0 cs.toArray.toList) w.heap.size 0 cs.toArray.toList);exact(hd.Dw K (fun b hb _ e=>by have e:b=w.heap.size:=e;have hb:w0.heap.size≤b:=hb;omega)).mono (fun b hb=>aq hb0.size hb)
 have t1:decide ((4096:Int)<(N:Int))=true:=by simp;omega
 have t2:decide (4096<N)=true:=by simp;omega
 have HLG:=cD MR;clear MR;go_wp2_with (first
  |(rw[←QB.out.1];refine aD rfl 42 (.tmp 4) (.tmp 10) rfl w1.heap.size 0 cs.toArray rfl rfl HT.out fm.out gG.out ?_)
  |(refine aD rfl 42 (.tmp 2) (.tmp 20) rfl w.heap.size 0 #[.B,.U,.U,.I,.U,.B,.z,.n,.I,.F,.F,.n,.I,.V,.I,.V,.n,.n,.U,.I,.I,.V,.n] rfl rfl nW.out Xn.out afv.out ?_))
 refine bh (iF rfl _ _ w.heap.size 0 tM _ rfl (an _ _ _ _ nW.out) underlying42 rfl Xn.out) rfl ?_;refine⟨tM,2,rfl,iK.out _,.inr ⟨?_,rfl,rfl⟩⟩;rw[YS.out,←Nq.out];have:=HLG.out;simp[this]
def jA.cells(X:jA)(o:di)(i:ei)(fa:Option aS)(fc:Nat):List aF:=iA X.kind X.oE X.req X.os X.on o X.eu i X.dy X.dO X.ep fa X.fr.length fc
structure ajH(x:jA):Prop where
 kind:x.kind<256
 oE:x.oE<4294967296
 req:x.req<4294967296
 os:nR x.os
 on:x.on<4294967296
 dy:nR x.dy
 dO:nR x.dO
 ep:x.ep<18446744073709551616
 ew:nR x.eu.ew
 OZ:nR x.eu.dO
structure pV(w:ah)(X:jA)(o:di)(i:ei)(L:List dr)(fa:Option aS):Prop where
 op:∃n,qJ w n o X.FP
 eu:uy w i L X.eu
 fr:mP w fa X.fr.length X.fr
 num:ajH X
 size:X.FP.length+kF X.eu+8*X.fr.length≤50000000
theorem pV.below{w w':ah}{X:jA}{o:di}{i:ei}{L:List dr}{fa:Option aS}(h:pV w X o i L fa)(hb:cE w w'):pV w' X o i L fa:=
 ⟨h.op.imp fun n h=>h.below hb,h.eu.below hb,h.fr.below hb,h.num,h.size⟩
theorem Dy(x:fW):(jl x).length≤60+kF x:=by
 unfold jl kF;have h1:=DT x.dF;have h2:=jh x.de;simp only[ag,dD,h2];omega
theorem Js(x:jA):(qN x).length=10:=rfl
def mZ(x:jA)(k:Nat):cO:=((qN x).take k).flatMap fun v=>dw 8 (lu v)
theorem FZ{x:jA}{k:Nat}{v:Int}(h:(qN x)[k]?=some v):mZ x (k+1)=mZ x k++dw 8 (lu v):=ju _ h
theorem zT(x:jA)(k:Nat)(hk:k≤10):(mZ x k).length≤80:=by
 unfold mZ;have:∀L:List Int,(L.flatMap fun v=>dw 8 (lu v)).length=8*L.length:=fun L=>by
  induction L with
  |nil=>rfl
  |cons a L ih=>rw[aA,ag,dD,ih,aZ];omega
 rw[this,List.length_take];omega
theorem CR(w:ah)(X:jA)(o:di)(i:ei)(L:List dr)(fa:Option aS)(fc:Nat)(h:pV w X o i L fa):
  aV prog 166 #[.agg (X.cells o i fa fc).toArray] w (fe w (pW X)):=by
 obtain⟨n,hop⟩:=h.op;have pJ:=h.num;have hsize:=h.size;obtain⟨w1,hw1,dB,hs1,fS⟩:=dX w (X.cells o i fa fc) 42;have hin:=h.below dB;have HWX:Hid (pW X=mZ X 10++X.FP++gw X.fr++jl X.eu):=cD rfl;rw[HWX.out];have c0:∀w',cE w1 w'→w'.cell? ⟨w.heap.size,0,none⟩=some (.b (X.kind:Int)):=fun w' h=>fS w' h 0 _ rfl
 have c1:∀w',cE w1 w'→w'.cell? ⟨w.heap.size,1,none⟩=some (.u (X.oE:Int)):=fun w' h=>fS w' h 1 _ rfl
 have c2:∀w',cE w1 w'→w'.cell? ⟨w.heap.size,2,none⟩=some (.u (X.req:Int)):=fun w' h=>fS w' h 2 _ rfl
 have c3:∀w',cE w1 w'→w'.cell? ⟨w.heap.size,3,none⟩=some (.i X.os):=fun w' h=>fS w' h 3 _ rfl
 have c4:∀w',cE w1 w'→w'.cell? ⟨w.heap.size,4,none⟩=some (.u (X.on:Int)):=fun w' h=>fS w' h 4 _ rfl
 have Lz:∀w',cE w1 w'→w'.cell? ⟨w.heap.size,12,none⟩=some (.i X.eu.ew):=fun w' h=>fS w' h 12 _ rfl
 have M9:∀w',cE w1 w'→w'.cell? ⟨w.heap.size,14,none⟩=some (.i X.eu.dO):=fun w' h=>fS w' h 14 _ rfl
 have PV:∀w',cE w1 w'→w'.cell? ⟨w.heap.size,19,none⟩=some (.i X.dy):=fun w' h=>fS w' h 19 _ rfl
 have Jh:∀w',cE w1 w'→w'.cell? ⟨w.heap.size,20,none⟩=some (.i X.dO):=fun w' h=>fS w' h 20 _ rfl
 have Lw:∀w',cE w1 w'→w'.cell? ⟨w.heap.size,21,none⟩=some (.v (X.ep:Int)):=fun w' h=>fS w' h 21 _ rfl
 have PU:∀w',cE w1 w'→w'.cell? ⟨w.heap.size,22,none⟩=some (.slice fa X.fr.length fc):=fun w' h=>fS w' h 22 _ rfl
 have hro:∀w',cE w1 w'→w'.rangeAt w.heap.size 5 o.cells:=fun w' h j u hu=>by
  have:=fS w' h (5+j) u (by
   unfold jA.cells iA;have hj:=(aB.1 hu).1;simp[di.cells] at hj;have:j=0∨j=1∨j=2∨j=3∨j=4∨j=5∨j=6:=by omega
   rcases this with rfl|rfl|rfl|rfl|rfl|rfl|rfl<;>exact hu)
  rwa [aN] at this
 have hri:∀w',cE w1 w'→w'.rangeAt w.heap.size 12 (cU X.eu i):=fun w' h j u hu=>by
  have:=fS w' h (12+j) u (by
   unfold jA.cells iA;have hj:=(aB.1 hu).1;simp[cU] at hj;have:j=0∨j=1∨j=2∨j=3∨j=4∨j=5∨j=6:=by omega
   rcases this with rfl|rfl|rfl|rfl|rfl|rfl|rfl<;>exact hu)
  rwa [aN] at this
 have HR:=cD (cC hro (cC hri PU));have HW:=cD (cC hw1 dB);have zQ:=cD (cC hin (cC hop (cC pJ hsize)));have b1:=af w1.heap.size w1;have x0:=c0 w1 b1;have x1:=c1 w1 b1;have x2:=c2 w1 b1;have x3:=c3 w1 b1;have x4:=c4 w1 b1;have x12:=Lz w1 b1;have x14:=M9 w1 b1;have x19:=PV w1 b1;have x20:=Jh w1 b1;have x21:=Lw w1 b1;have w64:∀m:Nat,m<9223372036854775808→bB (m:Int)=(m:Int):=fun m hm=>by unfold bB;omega
 have t0:∀_:True,bB (X.kind:Int)=(X.kind:Int):=fun _=>w64 _ (by have:=pJ.kind;omega)
 have t1:∀_:True,bB (X.oE:Int)=(X.oE:Int):=fun _=>w64 _ (by have:=pJ.oE;omega)
 have t2:∀_:True,bB (X.req:Int)=(X.req:Int):=fun _=>w64 _ (by have:=pJ.req;omega)
 have t3:∀_:True,bB (X.on:Int)=(X.on:Int):=fun _=>w64 _ (by have:=pJ.on;omega)
 obtain⟨w2,fH,dI,hs2,hr2⟩:=dX w1 [.i (X.kind:Int),.i (X.oE:Int),.i (X.req:Int),.i X.os,.i (X.on:Int),.i X.dy,.i X.dO,.i (bB (X.ep:Int)),.i X.eu.ew,.i X.eu.dO] 2;have hrow:∀w',cE w2 w'→∀(k:Nat) v,(qN X)[k]?=some v→w'.cell? ⟨w1.heap.size,k,none⟩=some (.i v):=fun w' h k v hv=>by
  have:=hr2 w' h k (.i v) (by
   have e:[bC .i64 (X.kind:Int),.i (X.oE:Int),.i (X.req:Int),.i X.os,.i (X.on:Int),.i X.dy,.i X.dO,.i (bB (X.ep:Int)),.i X.eu.ew,.i X.eu.dO]=(qN X).map (bC .i64):=rfl;rw[e,aG,hv];rfl)
  rwa [aN] at this
 have CN:=cD hrow;have nW:=cD (cC fH (cC dI (dB.trans (dI.mono dB.size))));clear w64 fH dI hs2 hr2 hrow;clear h hw1 dB hs1 fS hin hop pJ hsize hro hri c0 c1 c2 c3 c4 Lz M9 PV Jh Lw PU b1;go_enter func166,ntmps166
 go_upto_region 2 with fail
 rw[←HW.out.1];go_wp2
 rw[←nW.out.1];clear x0 x1 x2 x3 x4 x12 x14 x19 x20 x21 t0 t1 t2 t3;go_loopw [3,37] (fun bv kv wr=>∃(k:Nat) (a:Option aS) (n c:Nat),k≤10∧kv=.i k∧bv=.slice a n c∧Hid (iJ w2 (mZ X k) a n c wr)) (fun _ kv _=>10 - (intOf kv).toNat)
 case atStart=>exact⟨0,none,0,0,by omega,rfl,rfl,cD ⟨rfl,IL _ _,af _ _⟩⟩
 obtain⟨k,a,m,c,hk,rfl,rfl,HS⟩:=hrel;by_cases hlt:k<10
 ·obtain⟨v,hv⟩:∃v,(qN X)[k]?=some v:=⟨_,aj (by rw[Js];exact hlt)⟩
  have y:=CN.out wr HS.out.bl k v hv;have HC:=cD (vK wr HS.out.pH (aq (zT X k cK) cK) v);have HV:=cD hv;clear hv;have s1:decide ((k:Int)<10)=true:=by simp;omega
  go_wp2_with fail
  refine HC.out.mono ?_;rintro e w3 ⟨a3,n3,c3,rfl,h1⟩;have H3:Hid (iJ w2 (mZ X (k+1)) a3 n3 c3 w3):=cD ((h1.trans HS.out.bl).cast (FZ HV.out).symm);clear h1 y;go_wp2
  go_roundw
  case rel=>exact⟨k+1,a3,n3,c3,by omega,by go_num,rfl,H3⟩
  case measure=>simp[intOf];omega
 obtain rfl:k=10:=by omega
 clear hlt hk;have HB:Hid (cE w1 wr):=cD (nW.out.2.1.trans (HS.out.bl.mono nW.out.2.1.size));have HLK:=cD (zT X 10 cK);have sG:Hid (cG 35 o.cells.length):=cD (by show _=some 7;exact cH);have HSI:Hid ((prog.info? 40).map (·.size)=some (cU X.eu i).length):=cD (by show _=some 7;kernel_rfl);have y22:=HR.out.2.2;go_wp2_with fail
 refine rC HB.out fun wd hS hd=>?_
 refine tI 0 rfl hS ?_;refine tI 1 rfl hS ?_;refine tI 4 rfl hS ?_;refine tJ 5 rfl hS y22 ?_;simp only[cR];refine tL 2 rfl hS 35 (.tmp 46) w.heap.size 5 o.cells HR.out.1 underlying35 sG.out ?_;simp only[cR];refine cI 3 rfl ?_;have q1:(mZ X 10).length+X.FP.length≤200000000:=by have:=HLK.out;have:=zQ.out.2.2.2;omega
 refine(ED n wd a m c (mZ X 10) o X.FP (HS.out.pH.below hd) ((zQ.out.2.1.below HW.out.2).below hS) q1).mono ?_;rintro e w3 ⟨a3,n3,c3,rfl,P3⟩;have ek:=hS.trans (P3.bl.mono hS.size);refine⟨ek,?_⟩;simp only[cR];refine cI 6 rfl ?_;have q2:(mZ X 10++X.FP++gw X.fr).length≤800000000:=by have:=HLK.out;have:=zQ.out.2.2.2;have:=jh X.fr;simp only[ag];omega
 refine(xh w3 P3.pH (sc:=fc) (zQ.out.1.fr.below ek) q2).mono ?_;rintro e w4 ⟨a4,n4,c4,rfl,P4⟩;have eV:=ek.trans (P4.bl.mono ek.size);refine⟨eV,?_⟩;simp only[cR];refine tI 7 rfl eV ?_;simp only[cR];refine bg cJ ?_ _;have P5:=(P4.trans (P3.bl)).trans hd;have H5:=cD (cC P5 eV);clear P3 P4 P5 hS ek eV hd q1 q2 y22;go_wp2_with (refine aX rfl 40 (.tmp 53) rfl w.heap.size 12 rfl (cU X.eu i) _ (HR.out.2.1 w4 H5.out.2) underlying40 rfl HSI.out ?_)
 have q3:(mZ X 10++X.FP++gw X.fr).length+kF X.eu≤200000000:=by have:=HLK.out;have:=zQ.out.2.2.2;have:=jh X.fr;simp only[ag];omega
 refine(Hu w4 H5.out.1.pH i L X.eu (zQ.out.1.eu.below H5.out.2) q3).mono ?_;rintro e w6 ⟨a6,n6,c6,rfl,P6⟩;have H6:=cD ((((P6.trans H5.out.1.bl).trans HS.out.bl).trans nW.out.2.2));clear P6 q3;go_wp2
 go_ret
 exact⟨a6,n6,c6,rfl,H6.out⟩
attribute [local go_sem] jk jj
theorem ZN(w:ah){a:Option aS}{n c:Nat}{cs:List (List aF)}(hc:gV w 3 a cs)(hn:n=cs.length)(hl:n≤1000000000)(cv:aF)(bad:Nat→Bool)
  (HF:∀W,cE w W→∀(k:Nat) x,cs[k]?=some x→aV prog 61 #[.agg x.toArray,cv] W fun e w'=>e=.returned (.bool (bad k))∧cE W w'):
  aV prog 161 #[.slice a n c,.func (.func 61) #[] #[cv]] w fun e w'=>∃i:Int,e=.returned (.i i)∧decide (0≤i)=(aL n).any bad∧cE w w':=by
 have HD:=cD (cC hc (cC hn HF));have fm:Hid (cG 137 3):=cD cJ;clear hc hn HF;go_enter func161,ntmps161
 go_wp2
 go_loopw [8] (fun kv wr=>∃k:Nat,k≤n∧kv=.i k∧Hid ((aL k).any bad=false∧cE w wr)) (fun kv _=>n - (intOf kv).toNat)
 case atStart=>exact⟨0,by omega,rfl,cD ⟨rfl,af _ _⟩⟩
 obtain⟨k,hk,rfl,HS⟩:=hrel;by_cases hlt:k<n
 ·obtain⟨x,hx⟩:∃x,cs[k]?=some x:=⟨_,aj (by rw[←HD.out.2.1];exact hlt)⟩
  obtain⟨b,off,hao,hb,fS,hlen⟩:=HD.out.1 k x hx;subst hao;have nT:=cD (cC (dR fS HS.out.2 hb) hlen);have HC:=cD (HD.out.2.2 wr HS.out.2 k x hx);obtain⟨g,hg⟩:=cF (bad k);have HG:=cD hg;rw[←hg] at HC;clear fS hb hx hlen hg;go_wp2_with (refine aX rfl 137 (.tmp 14) rfl b (off+k*3) rfl x _ nT.out.1 underlying137 rfl (by rw[nT.out.2];exact fm.out) ?_)
  refine HC.out.mono ?_;rintro e w2 ⟨rfl,h1⟩;have H2:=cD (HS.out.2.trans (h1.mono HS.out.2.size));clear h1;cases g with
  |true=>
   have HB:Hid (decide ((0:Int)≤(k:Int))=(aL n).any bad):=cD (by
    rw[bu.2 ⟨k,bA.2 hlt,HG.out.symm⟩];simp)
   go_wp2
   go_ret
   exact⟨k,rfl,HB.out,H2.out⟩
  |false=>
  have HB:Hid ((aL (k+1)).any bad=false):=cD (by
   rw[List.range_succ,List.any_append,HS.out.1];simp[←HG.out])
  go_wp2
  go_roundw
  case rel=>exact⟨k+1,by omega,by go_num,cD ⟨HB.out,H2.out⟩⟩
  case measure=>simp[intOf];omega
 obtain rfl:n=k:=by omega
 have t1:decide ((n:Int)<(n:Int))=false:=by simp
 have t2:decide (n<n)=false:=by simp
 clear hlt hk;go_wp2
 go_ret
 exact⟨-1,rfl,by rw[HS.out.1];rfl,HS.out.2⟩
theorem PI(w:ah){a:Option aS}{n c:Nat}{cs:List (List aF)}(hc:gV w 3 a cs)(hn:n=cs.length)(hl:n≤1000000000)(cv:aF)(bad:Nat→Bool)
  (HF:∀W,cE w W→∀(k:Nat) x,cs[k]?=some x→aV prog 61 #[.agg x.toArray,cv] W fun e w'=>e=.returned (.bool (bad k))∧cE W w'):
  aV prog 60 #[.slice a n c,.func (.func 61) #[] #[cv]] w fun e w'=>e=.returned (.bool ((aL n).any bad))∧cE w w':=by
 have HI:=cD (ZN w (c:=c) hc hn hl cv bad HF);obtain⟨g,hg⟩:=cF ((aL n).any bad);rw[←hg] at HI⊢;clear hc hn hl HF hg;go_enter func60,ntmps60
 go_wp2_with fail
 refine HI.out.mono ?_;rintro e w2 ⟨i,rfl,h0,h1⟩;have H1:=cD h1;clear h1;go_wp2
 go_ret
 exact⟨rfl,H1.out⟩
theorem LA(w:ah){a1 a2:Option aS}{n1 n2 c1 c2:Nat}{D1 D2:cO}(h1:BytesIn w a1 n1 c1 D1)(h2:BytesIn w a2 n2 c2 D2):
  aV prog 165 #[.slice a1 n1 c1,.slice a2 n2 c2] w fun e w'=>e=.returned (.bool (decide (D1=D2)))∧w=w':=by
 have q1:=rL (c:=c1) h1.cS.cS h1.cS.nil;have q2:=rL (c:=c2) h2.cS.cS h2.cS.nil;rw[←h1.len] at q1;rw[←h2.len] at q2;have q3:=Bp D1 D2;clear h1 h2;go_enter func165,ntmps165
 go_wp2
 go_ret
 exact⟨by rw[←q3];rfl,rfl⟩
theorem Al(w:ah)(X Y:jA)(o o2:di)(i i2:ei)(L L2:List dr)(fa fa2:Option aS)(fc fc2:Nat)(h:pV w X o i L fa)(h2:pV w Y o2 i2 L2 fa2):
  aV prog 64 #[.agg (X.cells o i fa fc).toArray,.agg (Y.cells o2 i2 fa2 fc2).toArray] w fun e w'=>e=.returned (.bool (Am X Y))∧cE w w':=by
 obtain⟨w1,hw1,dB,hs1,kP⟩:=dX w (X.cells o i fa fc) 42;obtain⟨w2,fH,dI,hs2,hr2⟩:=dX w1 (Y.cells o2 i2 fa2 fc2) 42;have nS:=cD (cC hw1 dB);have nW:=cD (cC fH dI);have HX:=cD fun W (hb:cE w2 W)=>CR W X o i L fa fc (((h.below dB).below dI).below hb)
 have HY:=cD fun W (hb:cE w2 W)=>CR W Y o2 i2 L2 fa2 fc2 (((h2.below dB).below dI).below hb)
 rw[hs1] at hr2;have HR:=cD (cC (fun W (hb:cE w2 W)=>kP W (dI.trans (hb.mono dI.size))) hr2);have HB:=cD (dB.trans (dI.mono dB.size));have sH:Hid ((prog.info? 42).map (·.size)=some (X.cells o i fa fc).length):=cD (by show _=some 23;kernel_rfl);have HS2:Hid ((prog.info? 42).map (·.size)=some (Y.cells o2 i2 fa2 fc2).length):=cD (by show _=some 23;kernel_rfl);generalize X.cells o i fa fc=cx at*;generalize Y.cells o2 i2 fa2 fc2=cy at*;clear h h2 hw1 fH dB dI kP hr2 hs1 hs2;go_enter func64,ntmps64
 go_upto_region 1 with fail
 rw[←nS.out.1,←nW.out.1];go_wp2_with fail
 refine rB fun wd hS=>?_
 refine tL 0 rfl hS 42 (.tmp 2) w.heap.size 0 cx HR.out.1 underlying42 sH.out ?_;refine tL 2 rfl hS 42 (.tmp 3) (w.heap.size+1) 0 cy HR.out.2 underlying42 HS2.out ?_;simp only[cR];refine cI 1 rfl ?_;refine(HX.out wd hS).mono ?_;rintro e w3 ⟨a3,n3,c3,rfl,P3⟩;have ek:=hS.trans (P3.bl.mono hS.size);refine⟨ek,?_⟩;simp only[cR];refine cI 3 rfl ?_;refine(HY.out w3 ek).mono ?_;rintro e w4 ⟨a4,n4,c4,rfl,P4⟩;have eV:=ek.trans (P4.bl.mono ek.size);refine⟨eV,?_⟩;simp only[cR];refine cI 4 rfl ?_;refine(LA w4 (P3.pH.below P4.bl) P4.pH).mono ?_;rintro e w5 ⟨rfl,rfl⟩;refine⟨eV,?_⟩;simp only[cR];refine tI 5 rfl eV ?_;simp only[cR];refine bg cJ ?_ _;have H4:=cD (HB.out.trans (eV.mono HB.out.size));clear hS ek eV P3 P4;go_wp2
 go_ret
 exact⟨rfl,H4.out⟩
def Pt.Te:Pt→Option FuncId
 |.client=>none
 |.owner=>some 131
 |.op=>some 137
 |.item=>some 142
 |.dy=>some 147
 |.place=>some 152
 |.epoch=>none
 |.de=>some 160
theorem Pt.U6(p:Pt):p.Cf=match p.Te with
 |none=>.nilFunc
 |some f=>.func (.func f) #[] #[]:=by cases p<;>rfl
theorem Pt.KV(p:Pt){f:FuncId}(h:p.Te=some f):∀args w,(callFunc f args).run prog w=.ok (.enter f args) w:=by
 cases p with
 |client=>cases h
 |owner=>cases h;exact au func131 cJ rfl
 |op=>cases h;exact au func137 cJ rfl
 |item=>cases h;exact au func142 cJ rfl
 |dy=>cases h;exact au func147 cJ rfl
 |place=>cases h;exact au func152 cJ rfl
 |epoch=>cases h
 |de=>cases h;exact au func160 cJ rfl
theorem Pt.RW{p:Pt}(h:p.Te=none)(X:jA):p.may X=true:=by cases p<;>first|rfl|cases h
theorem RN(w:ah)(f:FuncId):(binOp .neq 135 (.func (.func f) #[] #[]) .nilFunc).run prog w=.ok (.T) w:=by kernel_rfl
theorem RM(w:ah):(binOp .neq 135 .nilFunc .nilFunc).run prog w=.ok (.F) w:=by kernel_rfl
def YG(w:ah)(xb:Nat)(X:jA):Prop:=∀(p:Pt) f,p.Te=some f→∀W,cE w W→aV prog f #[.p xb] W fun e w'=>e=.returned (.bool (p.may X))∧cE W w'
theorem N7(w:ah)(xb:Nat)(X:jA)(HM:YG w xb X)(p:Pt)(W:ah)(hW:cE w W):
  aV prog 61 #[.agg p.cells.toArray,.p xb] W fun e w'=>e=.returned (.bool (!p.may X))∧cE W w':=by
 have hv:=p.U6;unfold Pt.cells;obtain⟨w1,hw1,dB,hs1,kP⟩:=dX W [.func (.func p.CA) #[] #[],.func (.func p.qI) #[] #[],p.Cf] 137;have y2:w1.cell? ⟨W.heap.size,2,none⟩=some p.Cf:=kP w1 (af _ _) 2 _ rfl;have nS:=cD (cC hw1 dB);cases hf:p.Te with
 |none=>
  rw[hf] at hv;dsimp only at hv;rw[hv] at nS y2⊢;have hm:=Pt.RW hf X;rw[hm];have q:=RM;clear hw1 dB hs1 kP HM hW hv hf hm;go_enter func61,ntmps61
  go_upto_region 1 with fail
  rw[←nS.out.1];go_wp2
  go_ret
  exact⟨rfl,nS.out.2⟩
 |some f=>
 rw[hf] at hv;dsimp only at hv;rw[hv] at nS y2⊢;have DG:=p.KV hf;have q:=RN;have HC:=cD (HM p f hf w1 (hW.trans (dB.mono hW.size)));obtain⟨g,hg⟩:=cF (p.may X);rw[←hg] at HC⊢;clear hw1 dB hs1 kP HM hW hv hf hg;go_enter func61,ntmps61
 go_upto_region 1 with fail
 rw[←nS.out.1];go_wp2_with fail
 refine HC.out.mono ?_;rintro e w2 ⟨rfl,h2⟩;have H2:=cD (nS.out.2.trans (h2.mono nS.out.2.size));clear h2;cases g with
 |true=>
  go_wp2
  go_ret
  exact⟨rfl,H2.out⟩
 |false=>
 go_wp2
 go_ret
 exact⟨rfl,H2.out⟩
def ki(w:ah)(o:di)(M:Bool):Prop:=∃(cs:List (List aF)) (may:Nat→Bool),gV w 7 o.pa cs∧o.pn=cs.length∧o.pn≤1000000000∧M=qz o 6 may∧
 ∀W,cE w W→∀(k:Nat) x,cs[k]?=some x→o.pn≤6→aV prog 235 #[.agg x.toArray] W fun e w'=>e=.returned (.bool (may k))∧cE W w'
theorem ki.below{w w':ah}{o:di}{M:Bool}(h:ki w o M)(hb:cE w w'):ki w' o M:=by
 obtain⟨cs,may,h1,h2,h3,h4,h5⟩:=h;exact⟨cs,may,h1.below hb,h2,h3,h4,fun W hW=>h5 W (hb.trans (hW.mono hb.size))⟩
structure CP(w:ah)(xb:Nat)(X:jA)(o:di)(i:ei)(L:List dr)(fa:Option aS)(fc:Nat):Prop where
 rng:w.rangeAt xb 0 (X.cells o i fa fc)
 lt:xb<w.heap.size
 UB:pV w X o i L fa
section
variable{w:World}{xb:Nat}{X:jA}{o:di}{i:ei}{L:List dr}{fa:Option Addr}{fc:Nat}
theorem CP.below{w':ah}(h:CP w xb X o i L fa fc)(hb:cE w w'):CP w' xb X o i L fa fc:=⟨dR h.rng hb h.lt,aK h.lt hb.size,h.UB.below hb⟩
theorem CP.cell(h:CP w xb X o i L fa fc)(k:Nat)(v:aF)(hv:(X.cells o i fa fc)[k]?=some v):w.cell? ⟨xb,k,none⟩=some v:=by
 have:=h.rng k v hv
 rwa [aN] at this
theorem CP.ahC(h:CP w xb X o i L fa fc):YD w xb X:=fun p W ao nb c B hW hB hl=>by
 have hb:=h.below hW;have hn:=h.UB.num;have hs:=h.UB.size;rw[ag] at hl;cases p with
 |client=>exact JY W hB xb X.oE X.req (hb.cell 1 _ rfl) (hb.cell 2 _ rfl) cK hn.oE hn.req
 |owner=>exact N4 W hB xb X.os X.on (hb.cell 3 _ rfl) (hb.cell 4 _ rfl) cK ⟨by omega,by have:=hn.on;omega⟩
 |op=>
  obtain⟨n,hop⟩:=hb.UB.op;exact Vv W hB xb o n X.FP (hb.cell 5 _ rfl) (hb.cell 6 _ rfl) (hb.cell 7 _ rfl) (hb.cell 8 _ rfl) (hb.cell 9 _ rfl) (hb.cell 10 _ rfl) (hb.cell 11 _ rfl) hop (by have:B.length+X.FP.length≤100000000:=hl;omega)
 |item=>
  exact N5 W hB xb i L X.eu (hb.cell 12 _ rfl) (hb.cell 13 _ rfl) (hb.cell 14 _ rfl) (hb.cell 15 _ rfl) (hb.cell 16 _ rfl) (hb.cell 17 _ rfl) (hb.cell 18 _ rfl) hb.UB.eu cK
 |dy=>exact Rt W hB xb X.dy (hb.cell 19 _ rfl) cK
 |place=>exact NZ W hB xb X.dO (hb.cell 20 _ rfl) cK
 |epoch=>exact N6 W hB xb X.ep (hb.cell 21 _ rfl) cK hn.ep
 |de=>exact JX W hB xb X.fr (hb.cell 22 _ rfl) hb.UB.fr (by rw[ag];exact aq hl cK)
theorem Av{L:List dr}{k:Nat}{c:List aF}(h:(L.map dr.cells)[k]?=some c):∃r,L[k]?=some r∧c=r.cells:=by
 simp only[aG,aI] at h;obtain⟨r,h1,h2⟩:=h;exact⟨r,h1,h2.symm⟩
theorem CP.ahK(h:CP w xb X o i L fa fc)(hm:ki w o X.oP):YG w xb X:=fun p f hf W hW=>by
 have hb:=h.below hW;cases p with
 |client=>cases hf
 |epoch=>cases hf
 |owner=>cases hf;exact OG W xb X.os X.on (hb.cell 3 _ rfl) (hb.cell 4 _ rfl)
 |op=>
  cases hf;obtain⟨cs,may,h1,h2,h3,h4,h5⟩:=hm.below hW;have:=VS W xb o cs may (hb.cell 5 _ rfl) (hb.cell 6 _ rfl) (hb.cell 7 _ rfl) (hb.cell 8 _ rfl) (hb.cell 9 _ rfl) (hb.cell 10 _ rfl) (hb.cell 11 _ rfl) h1 h2 h3 h5;rw[←h4] at this;exact this
 |item=>
  cases hf;have he:=hb.UB.eu.dF;refine OH W xb X.eu i (L.map dr.cells) (hb.cell 12 _ rfl) (hb.cell 13 _ rfl) (hb.cell 14 _ rfl) (hb.cell 15 _ rfl) (hb.cell 16 _ rfl) (hb.cell 17 _ rfl) (hb.cell 18 _ rfl) (fun k c hk=>?_) (by rw[aT];exact he.like.1.symm) (by have:=Iv X.eu.dF;have:=h.UB.size;unfold kF at this;omega) (fun W2 hW2 k c hk=>?_)
  ·obtain⟨r,hr,rfl⟩:=Av hk
   obtain⟨b,off,e1,e2,e3⟩:=he.cS k r hr;exact⟨b,off,e1,e2,e3,rfl⟩
  ·obtain⟨r,hr,rfl⟩:=Av hk
   have hkl:k<X.eu.dF.length:=by rw[←he.like.1];exact(aB.1 hr).1
   have hx:=aj hkl;have hd:X.eu.dF.getD k ⟨[],false,iQ⟩=X.eu.dF[k]:=by simp[List.getD,hx]
   rw[hd];exact Ke W2 r _ ((he.like.2 k r _ hr hx).below hW2)
 |dy=>cases hf;exact(RU W xb X.dy (hb.cell 19 _ rfl)).mono fun e w' ⟨h1,h2⟩=>⟨h1,by rw[←h2];exact af _ _⟩
 |place=>cases hf;exact(OF W xb X.dO (hb.cell 20 _ rfl)).mono fun e w' ⟨h1,h2⟩=>⟨h1,by rw[←h2];exact af _ _⟩
 |de=>cases hf;exact(Kc W xb fa X.fr.length fc (hb.cell 22 _ rfl)).mono fun e w' ⟨h1,h2⟩=>⟨h1,by rw[←h2];exact af _ _⟩
end
theorem vA{o:fh}(h:ux o):(opHead o).length≤147:=by
 have h1:=h.cW;have h2:=h.data;rw[jX];omega
theorem Ol{o:fh}{ps:List fh}(ho:ux o)(hl:ps.length≤6)(hp:∀p∈ps,ux p):(XC o ps).length≤2000:=by
 have h1:=vA ho;have h2:∀L:List fh,(∀p∈L,ux p)→(L.flatMap fun p=>opHead p++(dw 8 0++[])).length≤155*L.length:=fun L=>by
  induction L with
  |nil=>intro _;exact aE _
  |cons a L ih=>
   intro h;have h3:=ih (fun p hp=>h p (aM _ hp));have h4:=vA (h a aJ);rw[aA,ag,ag,ag,dD,aZ];simp only[bz];omega
 have h3:=h2 ps hp;unfold XC;rw[ag,ag,dD];omega
theorem Iw{E:List gm}(h:∀e∈E,oh e):jG E≤194*E.length:=by
 unfold jG
 induction E with
 |nil=>exact aE _
 |cons a E ih=>
  have h1:=ih (fun e he=>h e (aM _ he));have h2:=(h a aJ).cW;have h3:=(h a aJ).node.data;rw[List.map_cons,List.sum_cons,aZ];omega
theorem yc.pH{w:ah}{lo:Nat→Prop}{v:fV}{o:di}{L:List di}{i:ei}{E:List dr}{fa:Option aS}(h:yc w lo v o L i E fa)(hs:mE v):pV w v.x o i E fa:=by
 have hlen:o.pn=v.parts.length:=h.pn.trans h.like.1;refine⟨⟨2,v.op,v.parts.map (fun p=>opHead p++(dw 8 0++[])),h.leaf.both (fun _ _ _=>trivial),⟨hs.op.kind,hs.op.gW⟩,?_,by rw[aT];exact hlen,fun k D hk=>?_⟩,⟨⟨rfl,h.eu.de.mono (fun _ _ _=>trivial),hs.eu.de.2⟩,⟨rfl,⟨h.eu.like.1,fun k r e h1 h2=>?_⟩,h.eu.row,fun e he=>(hs.eu.dF.2 e he).node.num⟩,hs.eu.seq,hs.eu.ep,hs.eu.cl⟩,⟨rfl,h.fr.mono (fun _ _ _=>trivial),hs.fr.2⟩,?_,?_⟩
 ·show XC v.op v.parts=_
  unfold XC;rw[hlen,GY]
 ·simp only[aG,aI] at hk
  obtain⟨p,hp,rfl⟩:=hk;have hkl:=(aB.1 hp).1;obtain⟨q,hq⟩:∃q,L[k]?=some q:=⟨_,aj (by rw[h.like.1];exact hkl)⟩;obtain⟨g,e1,_,e3,e4⟩:=h.row k q hq;obtain⟨hl,e5,e6,e7⟩:=h.like.2 k q p hq hp;have hps:=hs.parts p (bG hp);exact⟨g,0,q,e1,e3,by rw[aN];exact e4,p,[],hl.both (fun _ _ _=>trivial),⟨hps.kind,hps.gW⟩,by rw[e6];rfl,e6,fun j D hj=>by simp at hj⟩
 ·obtain⟨g1,g2,g3⟩:=h.eu.like.2 k r e h1 h2
  exact⟨g1,g2,g3.mono (fun _ _=>trivial)⟩
 ·exact⟨hs.kind,hs.oE,hs.req,by have:=hs.os;exact⟨by show _≤v.os;omega,by show v.os<_;omega⟩,hs.on,by have:=hs.dy;exact⟨by show _≤v.dy;omega,by show v.dy<_;omega⟩,by have:=hs.dO;exact⟨by show _≤v.dO;omega,by show v.dO<_;omega⟩,hs.ep,hs.eu.is.ew,hs.eu.is.dO⟩
 have h1:=Ol hs.op hs.pl hs.parts;have h2:=Iw hs.eu.dF.2;have h3:=hs.eu.dF.1;have h4:=hs.eu.de.1;have h5:=hs.fr.1;show(XC v.op v.parts).length+kF v.eu+8*v.fr.length≤_;unfold kF;omega
attribute [local go_sem] jk jj
def IP(X:jA)(l:List Pt)(k:Nat):Bool:=match l[k]? with
 |some p=>!p.may X
 |none=>false
theorem TT(X:jA):∀l:List Pt,(aL l.length).any (IP X l)=l.any (fun p=>!p.may X):=fun l=>by
 rw[Bool.eq_iff_iff,bu,bu];constructor
 ·rintro⟨k,hk,h⟩
  unfold IP at h;cases e:l[k]? with
  |none=>rw[e] at h;cases h
  |some p=>rw[e] at h;exact⟨p,bG e,h⟩
 ·rintro⟨p,hp,h⟩
  obtain⟨k,hk⟩:=List.getElem?_of_mem hp;refine⟨k,bA.2 (aB.1 hk).1,?_⟩;unfold IP;rw[hk];exact h
theorem NF(X:jA):(jg X).length≤1+100+X.FP.length+(60+kF X.eu)+8*X.fr.length+100:=by
 have h1:=Dy X.eu;have h2:=jh X.fr;have hl:∀p:Pt,(p.put X).length≤16+X.FP.length+(60+kF X.eu)+8*X.fr.length:=fun p=>by
  cases p with
  |client=>show(dw 8 _++dw 8 _).length≤_;rw[ag,dD,dD];omega
  |owner=>show(iO _ _).length≤_;rw[xj];omega
  |op=>show X.FP.length≤_;omega
  |item=>show(jl _).length≤_;omega
  |dy=>show(dw 1 _).length≤_;rw[dD];omega
  |place=>show(dw 8 _).length≤_;rw[dD];omega
  |epoch=>show(dw 8 _).length≤_;rw[dD];omega
  |de=>show(gw _).length≤_;omega
 unfold jg;rw[ag,dD];have h3:∀k:Nat,((fq k).flatMap (·.put X)).length≤16+9+1+16+X.FP.length+(60+kF X.eu)+8*X.fr.length+16:=fun k=>by
  unfold fq;split<;>simp only[aA,List.flatMap_nil,ag,bz,Pt.put,dD,xj,h2]<;>omega
 have:=h3 X.kind;omega
def TY(w:ah)(X:jA)(e:bM)(w':ah):Prop:=∃a n c,e=.returned (.tuple #[.slice a n c,.i (Cl X)])∧iJ w (zJ X) a n c w'
theorem o9{w w':ah}{X:jA}{x:Int}(hx:x≠0)(h:Cl X=x)(hb:cE w w'):TY w X (.returned (.tuple #[.n,.i x])) w':=by
 have hd:zJ X=[]:=by unfold zJ;rw[if_neg (by rw[h];exact hx)]
 exact⟨none,0,0,by rw[h],by rw[hd];exact⟨rfl,IL _ _,hb⟩⟩
theorem sR{P:bJ}{ops:Array Oper}{rest:List Oper}{op:Oper}{a:Act}{w:ah}{Q:Exit→Act→ah→Prop}(hgd:Region.wanted op (yielded ops a.tmps)=true)(ty:TypeId)(x:Operand)(ho:op.op=.load ty x)
  (b o:Nat) (hx:a.eval x=.pointer (some ⟨b,o,none⟩)) (cs:List aF) (d:TypeDesc) (hc:w.rangeAt b o cs)
  (hu:P.underlying ty=some d) (hd:d.isRow=true) (hi:(P.info? ty).map (·.size)=some cs.length)
  (h:wpList P ops Q rest (a.put op.dst (.agg cs.toArray)) w):wpList P ops Q (op::rest) a w:=
 wpList_step fun K hK=>by rw[if_pos hgd];exact wp_load_mid ty x ho b o hx cs d hc hu hd hi (hK _ _ h)
theorem iJ.below{w w1 w2:ah}{D:cO}{a:Option aS}{n c:Nat}(h:iJ w D a n c w1)(hb:cE w1 w2):iJ w D a n c w2:=⟨h.len,h.cS.below hb,h.bl.trans (hb.mono h.bl.size)⟩
theorem N8(w:ah)(X:jA)(o:di)(i:ei)(L:List dr)(fa:Option aS)(fc:Nat)(h:pV w X o i L fa)(hm:ki w o X.oP):
  aV prog 22 #[.agg (X.cells o i fa fc).toArray] w (TY w X):=by
 obtain⟨w1,hw1,dB,hs1,kP⟩:=dX w (X.cells o i fa fc) 42;have nJ:CP w1 w.heap.size X o i L fa fc:=⟨kP w1 (af _ _),by omega,h.below dB⟩;have vP:=h.num.kind;have hTL:(jg X).length≤60000000:=by have:=NF X;have:=h.size;omega
 have y0:∀w',cE w1 w'→w'.cell? ⟨w.heap.size,0,none⟩=some (.b (X.kind:Int)):=fun w' hb=>(nJ.below hb).cell 0 _ rfl
 have nU:=cD (cC nJ (cC (hm.below dB) hTL));have nS:=cD (cC hw1 dB);have ajW:Hid ((prog.info? 42).map (·.size)=some (X.cells o i fa fc).length):=cD (by show _=some 23;kernel_rfl);have hmay:OI X=(kindOk X.kind&&!(aL (fq X.kind).length).any (IP X (fq X.kind))):=by unfold OI;rw[TT]
 have HMY:=cD hmay;clear h hm hw1 dB hs1 kP nJ hmay hTL;obtain⟨k,hk⟩:=cF X.kind;have HK:=cD hk;rw[←hk] at vP y0;clear hk;go_enter func22,ntmps22
 go_upto_region 1 with fail
 rw[←nS.out.1];refine rB fun wd hS=>?_
 refine tI 1 rfl hS ?_;refine tJ 2 rfl hS y0 ?_;simp only[cR];refine cI 0 rfl ?_;refine(Dv _).mono ?_;rintro e w4 ⟨mb,rfl,hK,hmb,hb4⟩;have b4:cE w1 w4:=hS.trans (hb4.mono hS.size);refine⟨b4,?_⟩;simp only[cR];obtain⟨v,sN,qg,Dz⟩:=hK.look k vP;refine NC (S':=fun w'=>cE w4 w') (fun w' h=>b4.trans (h.mono b4.size)) _ _ _ _ ?_;have eV:=af w4.heap.size w4;refine tJ 3 rfl eV sN ?_;refine tI 4 rfl eV ?_;refine tI 5 rfl eV ?_;refine tI 6 rfl eV ?_;simp only[cR];refine tI 7 rfl eV ?_;refine tI 8 rfl eV ?_;simp only[cR];refine bg cJ ?_ _;have FN:=cD (cC b4 (nS.out.2.trans (b4.mono nS.out.2.size)));have HV:=cD (cC qg Dz);clear b4 eV hS sN qg Dz hK hmb hb4 y0 vP;cases UN:kindOk k with
 |false=>
  have Xq:=cD UN;clear UN;go_wp2
  go_ret2
  refine o9 cL ?_ FN.out.2;unfold Cl;rw[HMY.out,←HK.out,Xq.out];rfl
 |true=>
 obtain⟨g,rfl,hg,hrow⟩:=HV.out.1 UN;obtain⟨l,hl⟩:=cF (fq k);rw[←hl] at hrow⊢;have Jc:l.length≤4:=by rw[hl];exact tV k
 obtain⟨bad,qh⟩:=cF ((aL l.length).any (IP X l));have UY:=cD (PI w4 (a:=some ⟨g,0,none⟩) (n:=l.length) (c:=l.length) (cs:=l.map Pt.cells) (fun j c hj=>by
  simp only[aG,aI] at hj;obtain⟨p,hp,rfl⟩:=hj;exact⟨g,0,rfl,hg.2,by rw[aN];exact hrow j p hp,Pt.kG p⟩) (by rw[aT]) cK (.p w.heap.size) (IP X l) (fun W hW j c hj=>by
  simp only[aG,aI] at hj;obtain⟨p,hp,rfl⟩:=hj;have hb:IP X l j=!p.may X:=by unfold IP;rw[hp]
  rw[hb];exact N7 w1 w.heap.size X (nU.out.1.ahK nU.out.2.1) p W (FN.out.1.trans (hW.mono FN.out.1.size))))
 rw[←qh] at UY;have Xq:=cD (cC UN (cC hl qh));have CN:=cD (cC hg hrow);obtain⟨N,hN⟩:=cF l.length;rw[←hN] at UY⊢;have HN:=cD hN;clear UN hl Jc qh hg hrow hN;go_wp2_with fail
 refine UY.out.mono ?_;rintro e w5 ⟨rfl,jz⟩;have Uo:=cD (cC (FN.out.1.trans (jz.mono FN.out.1.size)) (FN.out.2.trans (jz.mono FN.out.2.size)));have HRP:Hid (nP w5 wd.heap.size (.slice (some ⟨g,0,none⟩) N N) (fq X.kind)):=cD (by
  rw[←HK.out,←Xq.out.2.1,HN.out];exact nP.below ⟨g,rfl,CN.out.1,CN.out.2⟩ jz)
 clear jz;cases bad with
 |true=>
  go_wp2
  go_ret2
  refine o9 cL ?_ Uo.out.2;unfold Cl;rw[HMY.out,←HK.out,Xq.out.1,←Xq.out.2.1,←Xq.out.2.2];rfl
 |false=>
 have HT:=cD (Q2 w5 w.heap.size X (by have:=nU.out.1.UB.num.kind;exact this) ((nU.out.1.below Uo.out.1).cell 0 _ rfl) _ HRP.out ((nU.out.1.below Uo.out.1).ahC) (by have:=nU.out.2.2;omega));have HMT:Hid (OI X=true):=cD (by rw[HMY.out,←HK.out,Xq.out.1,←Xq.out.2.1,←Xq.out.2.2];rfl);go_wp2_with fail
 refine HT.out.mono ?_;rintro e w6 ⟨a6,n6,c6,rfl,P6⟩;have hn6:=P6.len;subst hn6;have HP6:=cD (P6.trans Uo.out.2);have No:=cD (Gr w6 a6 c6 _ (jg X) P6.pH.cS (by have:=nU.out.2.2;omega));have Un:=cD (cC (Uo.out.1.trans (P6.bl.mono Uo.out.1.size)) (Uo.out.2.trans (P6.bl.mono Uo.out.2.size)));clear P6 HT UY HRP;obtain⟨D,hD⟩:=cF (jg X);rw[←hD] at No HP6⊢;have hDl:D.length≤60000000:=by rw[hD];exact nU.out.2.2
 have HDD:=cD (cC hD hDl);clear hD hDl;go_wp2_with fail
 refine No.out.mono ?_;rintro e w7 ⟨o',i',Qz,Tg,L',E',u,rfl,hd,nY⟩;obtain⟨cs,hcs⟩:=cF ((eM D).cells o' i' Qz Tg);rw[←hcs];have I5:Hid (cs.length=23):=cD (by rw[hcs];simp[fV.cells,iA]);have gG:Hid (cs.toArray.all (·.oneCell')=true):=cD (by rw[hcs];simp[fV.cells,iA,aW]);have UX:=cD hcs;have Pb:cs.toArray.size=23:=by rw[ay,I5.out]
 clear hcs;obtain⟨wz,Kn,hbz,hsz,Ss⟩:=dX w7 [.B,.U,.U,.I,.U,.B,.z,.n,.I,.F,.F,.n,.I,.V,.I,.V,.n,.n,.U,.I,.I,.V,.n] 42;have hbk:wz.heap[w7.heap.size]?=some (.cells #[.B,.U,.U,.I,.U,.B,.z,.n,.I,.F,.F,.n,.I,.V,.I,.V,.n,.n,.U,.I,.I,.V,.n] 42 (0,0)):=by rw[Kn];exact aR w7 _
 have HT:Hid (wz.there w7.heap.size 0 cs.toArray.size):=cD (by rw[Pb];exact ey hbk 0 23 cM);have HE:Hid (cG 42 cs.length):=cD (by rw[I5.out];exact cH);have YT:Hid (cG 42 cs.toArray.size):=cD (by rw[Pb];exact cH);have Ks:=iw wz w7.heap.size 0 cs.toArray.toList;have YJ:Hid ((wz.setCells w7.heap.size 0 cs.toArray.toList).rangeAt w7.heap.size 0 cs):=cD (an _ _ _ _ (by have h:=HT.out;rw[Pb] at h;rw[←I5.out] at h;exact h));have SN:cE w7 (wz.setCells w7.heap.size 0 cs.toArray.toList):=hbz.trans (Ks.below hbz.size (fun b e=>by have e:b=w7.heap.size:=e;omega));have QF:=cD (cC (Un.out.1.trans ((nY.trans (SN.mono nY.size)).mono Un.out.1.size)) (Un.out.2.trans ((nY.trans (SN.mono nY.size)).mono Un.out.2.size)));have HP9:=cD (HP6.out.below (nY.trans (SN.mono nY.size)));have HD9:=cD (hd.kept (dA (S:=fun _=>False) SN) (fun b hb e=>e));have HX9:=cD (nU.out.1.below QF.out.1);have QB:=cD Kn;clear Kn hbz hsz Ss hbk SN Ks hd nY Pb;generalize nH:wz.setCells w7.heap.size 0 cs.toArray.toList=w9 at YJ QF HD9 HX9 HP9;have Uc:=cD nH;clear nH;cases hro:kM D with
 |false=>
  go_wp2_with (first|(rw[←QB.out];refine aD rfl 42 (.tmp 7) (.tmp 28) rfl w7.heap.size 0 cs.toArray rfl rfl HT.out YT.out gG.out ?_;rw[Uc.out])|fail)
  go_ret2
  refine o9 cL ?_ QF.out.2;unfold Cl;rw[if_neg (by rw[HMT.out];decide),←HDD.out.1,if_pos (.inl hro)]
 |true=>
 obtain⟨sm,UH⟩:=cF (Am X (eM D).x);have QC:=cD (cC hro UH);have HS9:=cD (Al w9 X (eM D).x o o' i i' L E' fa Qz fc Tg HX9.out.UB (HD9.out.pH (ox hro)));have Yg:(eM D).x.cells o' i' Qz Tg=cs:=by rw[UX.out];rfl
 rw[Yg,←UH] at HS9;clear hro UH Yg;go_wp2_with (first
  |(rw[←QB.out];refine aD rfl 42 (.tmp 7) (.tmp 28) rfl w7.heap.size 0 cs.toArray rfl rfl HT.out YT.out gG.out ?_;rw[Uc.out])
  |(refine sR cN 42 (.tmp 1) rfl w.heap.size 0 rfl (X.cells o i fa fc) _ HX9.out.rng underlying42 rfl ajW.out ?_)
  |(refine sR cN 42 (.tmp 7) rfl w7.heap.size 0 rfl cs _ YJ.out underlying42 rfl HE.out ?_)
  |fail)
 refine HS9.out.mono ?_;rintro e lR ⟨rfl,Cx⟩;have abA:=cD (cC (QF.out.2.trans (Cx.mono QF.out.2.size)) (HP9.out.below Cx));clear Cx;cases sm with
 |false=>
  go_wp2
  go_ret2
  refine o9 cL ?_ abA.out.1;unfold Cl;rw[if_neg (by rw[HMT.out];decide),←HDD.out.1,if_pos (.inr QC.out.2.symm)]
 |true=>
 have hpt:Cl X=if 4096<D.length then 3 else 0:=by
  unfold Cl;rw[if_neg (by rw[HMT.out];decide),←HDD.out.1,if_neg (by rw[QC.out.1,←QC.out.2];decide)]
 have HPT:=cD hpt;clear hpt;obtain⟨n,hn⟩:=cF D.length;have Qd:=cD hn;have hnl:n≤60000000:=by rw[hn];exact HDD.out.2
 rw[←hn];clear hn;by_cases hbig:4096<n
 ·have vQ:decide ((4096:Int)<(n:Int))=true:=by simp;omega
  go_wp2
  go_ret2
  refine o9 cL ?_ abA.out.1;rw[HPT.out,if_pos (by rw[←Qd.out];exact hbig)]
 have vQ:decide ((4096:Int)<(n:Int))=false:=by simp;omega
 go_wp2
 go_ret2
 have hz:Cl X=0:=by rw[HPT.out,if_neg (by rw[←Qd.out];exact hbig)]
 refine⟨a6,n,c6,by rw[hz];rfl,?_⟩;have hd:zJ X=D:=by unfold zJ;rw[if_pos hz,←HDD.out.1]
 rw[hd,Qd.out];exact abA.out.2
end
