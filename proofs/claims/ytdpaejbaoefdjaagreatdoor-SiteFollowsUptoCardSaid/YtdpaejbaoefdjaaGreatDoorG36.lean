/- Part 36. -/
import Derived.Test.YtdpaejbaoefdjaaGreatDoorG34
import Derived.StillTailTactics
open List renaming getElem?_eq_getElem → aa,getElem?_eq_some_iff → aq,length_attach → aD,length_append → aE,attach_map_subtype_val → aG,length_cons → aN,append_toArray → aR,size_toArray → aV,push_toArray → aW,cons_append → aZ,nil_append → bh,length_nil → bq,mem_of_getElem? → bu,getElem?_set_ne → bz,filter_append → bF,flatMap_cons → bH,getD → bM,map_append → bS,length_set → bT,length_map → bU,replicate → bY,getElem?_append_right → bZ,getElem?_append_left → cw,getElem?_set_self → aaa,contains_cons → aaE
open Go.RowKit.Below renaming refl → af,heap_alloc → aY
open Go renaming World → ag,Value → ay,Calls → aA,Boxed → aH,undef → aI,wpAnyH_done → aL,cell_of_row → aM,heap_alloc_new → aO,callsIn_wide → aU,Addr → bG,TypeId → bN,run_takeDeferred → cm,lt_of_block → cz,loadVar → cB,ownsRow_putObj → aaf
open Go.World renaming size_alloc → ah,putObj_heap_other → aB,rangeAt_setCells_same → aF,putObj → bg,cell? → bL,frozen? → cr,cell?_setCells_out → cu,block_lt_of_cell? → cA,ownsRow_nil → aaD
open Subtype renaming val → aj
open Nat renaming lt_of_lt_of_le → an,le_refl → aC,le_trans → aJ,zero_add → aK,reduceSub → bB,reduceAdd → bC
open Go.Boxed renaming new → au
open Array renaming replicate_zero → aP,replicate_succ → aQ,getElem?_eq_getElem → cj
open Go.Value renaming oneCell' → aS,slice → aT
open Go.ChangeMaps renaming setBlock → aX
open Go.Result renaming andThen_ok → bA,andThen → bQ
open Go.Sem renaming run_pure → bJ,run_bind → bK
open Go.Instr renaming mapUpdate → bP,sureAddr → bW
open Go.Region renaming wanted → bX
open Go.Proofs renaming enters_of → cq
open Go.IntKind renaming wrap_u64 → aap
open Go.Fence renaming wide → aaq
namespace Go.Proofs.YtdpaejbaoefdjaaGreatDoor
open Go.Proofs.Tryz
set_option maxRecDepth 100000
set_option maxHeartbeats 64000000
set_option linter.unusedVariables false
set_option linter.unusedSimpArgs false
section
open Go.RowKit Go.MapKept Go.ChangeMaps
open Go.Maps (Keyed)
def tA(s n:Int)(g:List (Int×Int))(m:Int):Bool:=decide (0<m)&&decide (m≤n)&&!(g.contains (s,m))
section
variable{w:World}{b mb:Nat}{s n:Int}{g:List (Int×Int)}
theorem iP.lt(h:iP w b mb s n g):b<w.heap.size:=cz h.blk
theorem iP.ne(h:iP w b mb s n g):b≠mb:=by
 intro e;obtain⟨es,c,hb,_⟩:=h.mp;rw[←e,h.blk] at hb;cases hb
theorem iP.c0(h:iP w b mb s n g):w.cell? ⟨b,0,none⟩=some (.i s):=by simp[bL,h.blk]
theorem iP.c1(h:iP w b mb s n g):w.cell? ⟨b,1,none⟩=some (.u n):=by simp[bL,h.blk]
theorem iP.c2(h:iP w b mb s n g):w.cell? ⟨b,2,none⟩=some (.map (some mb)):=by simp[bL,h.blk]
theorem iP.f1(h:iP w b mb s n g):w.frozen? ⟨b,1,none⟩=false:=by simp[cr,h.blk]
theorem iP.kept(h:iP w b mb s n g){S:Nat→Prop}{w':ag}(hk:cQ S w w')(h1:¬S b)(h2:¬S mb):iP w' b mb s n g:=
 ⟨hk.same h.blk h1,h.mp.kept hk h2⟩
theorem DM{a:Int×Int}:∀{g:List (Int×Int)},((dL a (g.map (·,true))).map Value.bool).getD (.F)=.bool (g.contains a)
 |[]=>by simp[dL]
 |p::r=>by
  simp only[List.map_cons,dL];by_cases h:p=a
  ·simp[h]
  ·simp only[if_neg h,aaE]
   rw[DM];have:(a==p)=false:=by simpa using fun e=>h e.symm
   simp[this]
theorem iP.look(h:iP w b mb s n g){x y:Int}(h1:nR x)(h2:wD y):
  (Instr.lookup 196 (.map (some mb)) (.agg #[.i x,.u y]) false).run prog w=.ok (.bool (g.contains (x,y))) w:=by
 obtain⟨l,hl⟩:=Q8 (p:=(x,y)) h1 h2;have:=h.mp.lookup XB Q9 underlying196 (Zh w) hl;rw[DM] at this;exact this
end
theorem AP(b mb:Nat)(s n m:Int)(g:List (Int×Int))(w:ag)(h:iP w b mb s n g)(hs:nR s)(hm:wD m):
  aA prog 246 #[.p b,.u m] w fun e w'=>e=.returned (.bool (tA s n g m))∧∃k,w'=w.drewN k:=by
 have h0:=h.c0;have h1:=h.c1;have h2:=h.c2;have hrun:=fun k=>(h.kept (S:=zP) ((cQ.refl _ w).drewN k) (fun e=>e) (fun e=>e)).look hs hm
 have zz:(decide (0<m)=false∨decide (m≤n)=false)→tA s n g m=false:=by
  rintro(e|e)<;>simp[tA,e]
 have MS:decide (0<m)=true→decide (m≤n)=true→tA s n g m=!(g.contains (s,m)):=by
  intro e1 e2;simp[tA,e1,e2]
 clear h;generalize hc:g.contains (s,m)=c at hrun MS;clear hc;generalize hL:tA s n g m=L at zz MS⊢;clear hL;have HF:=cD zz;have HF2:=cD MS;clear zz MS;by_cases hp:0<m
 ·have hp':decide ((0:Int)<m)=true:=by simpa using hp
  by_cases hq:m≤n
  ·have hq':decide (m≤n)=true:=by simpa using hq
   clear hp hq;go_enter func246,ntmps246
   go_wp2
   go_quiet (fail)
   go_wp2
   go_ret
   exact⟨by rw[HF2.out hp' hq'];rfl,_,rfl⟩
  have hq':decide (m≤n)=false:=by simpa using hq
  clear hp hq;go_enter func246,ntmps246
  go_wp2
  go_quiet (fail)
  go_wp2
  go_ret
  exact⟨by rw[HF.out (.inr hq')];rfl,_,rfl⟩
 have hp':decide ((0:Int)<m)=false:=by simpa using hp
 clear hp;go_enter func246,ntmps246
 go_wp2
 go_quiet (fail)
 go_wp2
 go_ret
 exact⟨by rw[HF.out (.inl hp')];rfl,_,rfl⟩
theorem Bf(b mb:Nat)(s n:Int)(g:List (Int×Int))(x y:Int)(w:ag)(h:iP w b mb s n g)(h1:nR x)(h2:wD y):
  aA prog 113 #[.p b,.agg #[.i x,.u y]] w fun e w'=>e=.returned (.bool (g.contains (x,y)))∧cQ zP w w':=by
 have h3:=h.c2;have hlt:=h.lt;have hrun:=fun(o:Obj) k=>(h.kept (S:=zP) (((cQ.refl _ w).alloc o).drewN k) (fun e=>e) (fun e=>e)).look h1 h2
 clear h h1 h2;generalize g.contains (x,y)=c at hrun⊢;go_enter func113,ntmps113
 go_wp2
 go_quiet (fail)
 go_wp2
 go_ret
 exact⟨rfl,((cQ.refl _ w).alloc _).drewN _⟩
theorem VN(s:Int)(w:ag):
  aA prog 43 #[.i s] w fun e w'=>e=.returned (.p (w.heap.size+1))∧w'=(w.alloc (.map #[] 0)).alloc (.cells #[.i s,.U,.map (some w.heap.size)] 198):=by
 have UM:=@run_makeMap prog;go_enter func43,ntmps43
 go_wp2
 go_ret
 exact⟨rfl,rfl⟩
def xY(a:Int×Int)(g:List (Int×Int)):List (Int×Int):=if g.contains a then g else g++[a]
theorem C9(a:Int×Int):∀g:List (Int×Int),iL a true (g.map (·,true))=(xY a g).map (·,true)
 |[]=>by simp[iL,xY]
 |p::r=>by
  simp only[List.map_cons,iL];by_cases h:p=a
  ·simp[h,xY]
  ·have h':(a==p)=false:=by simpa using fun e=>h e.symm
   simp only[if_neg h];rw[C9 a r];simp only[xY,aaE,h',Bool.false_or];split<;>simp
section
variable{w:World}{b mb:Nat}{s n:Int}{g:List (Int×Int)}
theorem iP.store(h:iP w b mb s n g){x y:Int}(h1:nR x)(h2:wD y):
  ∃o,∀w':ag,w'.heap[b]?=w.heap[b]?→w'.heap[mb]?=w.heap[mb]?→(bP 196 (.map (some mb)) (.agg #[.i x,.u y]) (.T)).run prog w'=.ok () (aX w' mb o)∧
   iP (aX w' mb o) b mb s n (xY (x,y) g)∧cQ (·=mb) w' (aX w' mb o):=by
 obtain⟨l,hl⟩:=Q8 (p:=(x,y)) h1 h2;obtain⟨o,ho⟩:=h.mp.update XB Q9 underlying196 true hl;refine⟨o,fun w' hb hmb=>?_⟩;obtain⟨h3,h4⟩:=ho w' hmb;have hlt:mb<w'.heap.size:=by
  obtain⟨es,c,h5,_⟩:=h.mp;exact cz (hmb.trans h5)
 have hk:=jE hlt o;refine⟨h3,⟨hk.same (hb.trans h.blk) h.ne,?_⟩,hk⟩;rw[←C9];exact h4
end
theorem TB(b mb:Nat)(s n m:Int)(g:List (Int×Int))(w:ag)(h:iP w b mb s n g)(hs:nR s)(hm:wD m)(hl:tA s n g m=false):
  aA prog 244 #[.p b,.u m] w fun e w'=>e=.returned (.i 63)∧∃k,w'=w.drewN k:=by
 go_enter func244,ntmps244
 go_wp2_with fail
 refine(AP b mb s n m g w h hs hm).mono ?_;rintro e w' ⟨rfl,k,rfl⟩;rw[hl];go_wp2
 go_ret
 exact⟨rfl,_,rfl⟩
theorem PL(b mb:Nat)(s n m:Int)(g:List (Int×Int))(w:ag)(h:iP w b mb s n g)(hs:nR s)(hm:wD m)(hl:tA s n g m=true):
  aA prog 244 #[.p b,.u m] w fun e w'=>e=.returned (.I)∧iP w' b mb s n (xY (s,m) g)∧cQ (·=mb) w w':=by
 obtain⟨o,ho⟩:=h.store hs hm;have ho2:∀k,(bP 196 (.map (some mb)) (.agg #[.i s,.u m]) (.T)).run prog (w.drewN k)=.ok () (aX (w.drewN k) mb o):=fun k=>(ho (w.drewN k) rfl rfl).1
 have ho3:∀k,iP (aX (w.drewN k) mb o) b mb s n (xY (s,m) g)∧cQ (·=mb) (w.drewN k) (aX (w.drewN k) mb o):=fun k=>(ho (w.drewN k) rfl rfl).2
 have H3:=cD ho3;have h0:=h.c0;have h2:=h.c2;have HL:=AP b mb s n m g w h hs hm;rw[hl] at HL;have HL':=cD HL;clear ho ho3 h hl HL;go_enter func244,ntmps244
 go_wp2_with fail
 refine HL'.out.mono ?_;rintro e w' ⟨rfl,k,rfl⟩;go_wp2
 go_region
 all_goals
  go_wp2
  go_ret
  obtain⟨g1,g2⟩:=H3.out (k+1);exact⟨rfl,g1,(((cQ.refl _ w).drewN _).trans g2)⟩
theorem OS(b mb:Nat)(s n:Int)(g:List (Int×Int))(x y:Int)(w:ag)(h:iP w b mb s n g)(h1:nR x)(h2:wD y)(hx:x≠s)(hy:0<y):
  aA prog 250 #[.p b,.agg #[.i x,.u y]] w fun e w'=>e=.returned (.tuple #[])∧iP w' b mb s n (xY (x,y) g)∧cQ (·=mb) w w':=by
 obtain⟨o,ho⟩:=h.store h1 h2;have hlt:=h.lt;have adV:=h.mp.lt;have ho2:∀(u:Obj) k,(bP 196 (.map (some mb)) (.agg #[.i x,.u y]) (.T)).run prog ((w.alloc u).drewN k)=.ok () (aX ((w.alloc u).drewN k) mb o):=
  fun u k=>(ho ((w.alloc u).drewN k) (aY _ _ _ hlt) (aY _ _ _ adV)).1
 have ho3:∀(u:Obj) k,iP (aX ((w.alloc u).drewN k) mb o) b mb s n (xY (x,y) g)∧cQ (·=mb) ((w.alloc u).drewN k) (aX ((w.alloc u).drewN k) mb o):=
  fun u k=>(ho ((w.alloc u).drewN k) (aY _ _ _ hlt) (aY _ _ _ adV)).2
 have H3:=cD ho3;have h0:=h.c0;have h2':=h.c2;have hd:(x != s)=true:=by simpa using hx
 have uD:decide (0<y)=true:=by simpa using hy
 clear ho ho3 h hx hy h1 h2;go_enter func250,ntmps250
 go_wp2
 go_quiet (fail)
 go_wp2
 go_region
 all_goals
  go_wp2
  go_end0
  obtain⟨g1,g2⟩:=H3.out _ (nq+1);exact⟨rfl,g1,((((cQ.refl _ w).alloc _).drewN _).trans g2)⟩
theorem Og(b mb:Nat)(s n:Int)(g:List (Int×Int))(w:ag)(h:iP w b mb s n g)(hn:32≤n):
  aA prog 242 #[.p b] w fun e w'=>e=.returned (.tuple #[.U,.i 4])∧w'=w:=by
 have h1:=h.c1;clear h;go_enter func242,ntmps242
 go_wp2
 go_ret2
 exact⟨rfl,rfl⟩
theorem VC(b mb:Nat)(s n:Int)(g:List (Int×Int))(w:ag)(h:iP w b mb s n g)(hn:n<32)(h0:0≤n):
  aA prog 242 #[.p b] w fun e w'=>e=.returned (.tuple #[.u (n+1),.I])∧iP w' b mb s (n+1) g∧cQ (·=b) w w':=by
 have h1:=h.c1;have hf:=h.f1;have hb:(w.setCell ⟨b,1,none⟩ (.u (n+1))).heap[b]?=some (.cells #[.i s,.u (n+1),.map (some mb)] 198 (0,0)):=by
  have hlt:=h.lt;have h':w.heap[b]=.cells #[.i s,.u n,.map (some mb)] 198 (0,0):=by simpa [cj hlt] using h.blk
  show(w.heap.modify b _)[b]?=_;rw[cj (by simpa using hlt),Array.getElem_modify_self,h'];rfl
 have hk:cQ (·=b) w (w.setCell ⟨b,1,none⟩ (.u (n+1))):=(cQ.refl (·=b) w).setCell (p:=⟨b,1,none⟩) rfl _;have hT:=cD (show iP (w.setCell ⟨b,1,none⟩ (.u (n+1))) b mb s (n+1) g∧cQ (·=b) w (w.setCell ⟨b,1,none⟩ (.u (n+1))) from⟨⟨hb,h.mp.kept hk (fun e=>h.ne e.symm)⟩,hk⟩);clear hb hk h;go_enter func242,ntmps242
 go_wp2
 go_ret2
 exact⟨rfl,hT.out⟩
end
structure jK where
 ep:Nat
 fr:List Nat
 held:Bool
 out:Bool
 deriving DecidableEq
def iM:jK:=⟨0,[],false,false⟩
structure cV where
 dy:Nat
 dP:List cO
 eC:List (Int×List (cO×Nd))
 toks:List jK
 last:Nat
 gone:List (Int×Int)
 v:List Nat
 own:List fW
structure kH where
 e:Int
 a:I7
 r:List wU
 i:fW
def oI(e:Int):kH:=⟨e,lX,[],mY⟩
def cV.new(dy sites:Nat)(dP:List cO):cV:=⟨dy,dP,dP.map (fun r=>(0,[(r,iQ)])),dP.map (fun _=>iM),0,[],bY sites 0,[]⟩
namespace cV
variable(m:cV)
def cS(r:Nat):Int:=(m.eC.getD r (0,[])).1
def dQ(r:Nat):List (cO×Nd):=(m.eC.getD r (0,[])).2
def cP(r:Nat):cO:=m.dP.getD r []
def tok(r:Nat):jK:=m.toks.getD r iM
def eA(r:Nat)(t:Int×List (cO×Nd)):cV:={m with eC:=m.eC.set r t}
def tT(r:Nat)(t:jK):cV:={m with toks:=m.toks.set r t}
def live(n:Nat):Bool:=tA m.dy m.last m.gone n
def item(x:fW):fW:={x with ew:=m.dy,seq:=m.v.getD m.dy 0+1,de:=m.v}
def make(x:fW):cV:={m with own:=m.own++[m.item x],v:=lF m.v m.dy}
def opens:cV×kH:=if 32≤m.last then (m,oI 4) else ({m with last:=m.last+1},⟨0,⟨Lib.decDigits (m.last+1),iQ,[]⟩,[],mY⟩)
def oD(n:Nat):fW:=⟨0,0,-1,0,[],[],n⟩
def jS(p:Int×Int):cV:={m with gone:=xY p m.gone}
def lI(y:fV):cV×kH:=if y.os≠m.dy∨m.live y.on=false then (m,oI 63) else ((m.jS (m.dy,y.on)).make (oD y.on),⟨0,lX,[],m.item (oD y.on)⟩)
def qu(r:Nat)(X:List gm):fW:=⟨0,0,r,(m.tok r).ep,[],X,0⟩
def rN(r:Nat)(o:mH)(dh:eF):List gm:=zA (m.cP r) (m.dQ r) (m.cS r) dh 0 o
def rO(r:Nat)(o:mH)(dh:eF):cV:=if m.rN r o dh=[] then m else (m.eA r (m.cS r+1,IB (m.cP r) (m.dQ r) (m.cS r) dh 0 o)).make (m.qu r (m.rN r o dh))
def LD(r:Nat)(o:mH)(dh:eF):fW:=if m.rN r o dh=[] then mY else m.item (m.qu r (m.rN r o dh))
def asked(r:Nat)(o:mH)(dh:eF):cV×kH:=
 if (m.tok r).held=false then (m,oI 61)
 else (m.rO r o dh,⟨Ca (m.cP r) (m.dQ r) (m.cS r) dh 0 o,PE (m.cP r) (m.dQ r) (m.cS r) dh 0 o,PC (m.cP r) (m.dQ r) (m.cS r) dh 0 o,m.LD r o dh⟩)
def uq(y:fV):Int:=gF y.op.kind y.op.data.length (y.parts.map fun p=>⟨p.kind,p.data.length,0⟩)
def write(y:fV):cV×kH:=
 if uq y≠0 then (m,oI (uq y))
 else if iq y.os y.on=false∧(y.os≠m.dy∨m.live y.on=false) then (m,oI 63)
 else if (uu m.dP y.op.cW (y.parts.map (·.cW))).2≠0 then (m,oI (uu m.dP y.op.cW (y.parts.map (·.cW))).2)
 else m.asked (uu m.dP y.op.cW (y.parts.map (·.cW))).1.toNat ⟨y.op,y.parts⟩ ⟨y.os,y.on⟩
def mA(x:fW)(sites dP:Nat):Bool:=
 decide (0≤x.ew)&&decide (x.ew<sites)&&decide (1≤x.seq)&&decide (x.de.length=sites)&&decide (x.de.getD x.ew.toNat 0=x.seq - 1)&&
  ((decide (0≤x.dO)&&decide (x.dO<dP)&&decide (0<x.ep)&&decide (x.cl=0)&&decide (x.dF≠[])) != (decide (x.dO=-1)&&decide (x.ep=0)&&decide (0<x.cl)&&decide (x.dF=[])))
def ready(x:fW)(v:List Nat):Bool:=decide (0≤x.ew)&&decide (x.ew<v.length)&&decide (0<x.seq)&&decide (x.seq - 1=v.getD x.ew.toNat 0)&&kI x.de v
def takes(x:fW):Bool:=mA x m.v.length m.dP.length&&!decide (x.ew=m.dy)&&ready x m.v&&(decide (0<x.cl)||decide ((dU (m.cP x.dO.toNat) (m.dQ x.dO.toNat) x.dF).1=0))
def kz(x:fW):cV:=
 let m1:=if 0<x.cl then m.jS (x.ew,x.cl) else m.eA x.dO.toNat (m.cS x.dO.toNat+1,(dU (m.cP x.dO.toNat) (m.dQ x.dO.toNat) x.dF).2)
 {m1 with v:=lF m.v x.ew.toNat}
def take(x:fW):cV×kH:=if m.takes x=false then (m,oI 62) else (m.kz x,⟨0,lX,[],x⟩)
def out(r:Int)(n:Nat):Prop:=r<0∨(n:Int)≤r
instance(r:Int)(n:Nat):Decidable (out r n):=by unfold out;infer_instance
def Va(y:fV):cV×kH:=
 if out y.dO m.dP.length then (m,oI 1)
 else if (m.tok y.dO.toNat).held=true∨y.ep≤(m.tok y.dO.toNat).ep then (m,oI 61)
 else if kI y.fr m.v=false then (m,oI 62)
 else (m.tT y.dO.toNat ⟨y.ep,y.fr,true,false⟩,oI 0)
def Ep(y:fV):cV×kH:=
 if out y.dO m.dP.length then (m,oI 1)
 else if (m.tok y.dO.toNat).held=false∨(m.tok y.dO.toNat).ep≠y.ep then (m,oI 61)
 else (m.tT y.dO.toNat ⟨y.ep,m.v,false,true⟩,oI 0)
def left(r:Nat):List cO:=(iu (m.dQ r)).filter fun p=>m.gone.contains (((dL p (m.dQ r)).getD iQ).num.os,((dL p (m.dQ r)).getD iQ).num.on)
def vu(r:Nat):mH:=⟨⟨7,[],[],0,false,false⟩,((m.left r).take 6).map fun p=>⟨2,p,[],-1,false,false⟩⟩
def tU(r:Int):cV×kH:=
 if out r m.dP.length then (m,oI 60)
 else if (m.tok r.toNat).held=false then (m,oI 61)
 else if m.left r.toNat=[] then (m,oI 0)
 else (m.rO r.toNat (m.vu r.toNat) ⟨0,0⟩,⟨0,lX,[],m.LD r.toNat (m.vu r.toNat) ⟨0,0⟩⟩)
def apply(y:fV):cV×kH:=
 match y.kind with
 |1=>m.write y
 |2=>m.opens
 |3=>m.lI y
 |4=>m.take y.eu
 |5=>m.Va y
 |6=>m.Ep y
 |7=>m.tU y.dO
 |_=>(m,oI 1)
def done(x:jA):cV×kH:=if Cl x=0 then m.apply (eM (zJ x)) else (m,oI 2)
end cV
section
open Go.RowKit Go.Shelf Go.MapKept Go.ChangeMaps
def iD(t:jK)(a:Option bG)(c:Nat):List ay:=[.v (t.ep:Int),.slice a t.fr.length c,.bool t.held,.bool t.out]
def Qt(x:ay):Prop:=(∀n,x≠.b n)∧∀s,x≠.string s
def I9:ay→Bool
 |.b _=>false
 |.string _=>false
 |_=>true
theorem acQ{x:ay}(h:I9 x=true):Qt x:=⟨fun n e=>(by rw[e] at h;cases h),fun s e=>(by rw[e] at h;cases h)⟩
theorem rP{w:ag}{b:Nat}{cs:Array ay}{t:bN}{fr:Nat×Nat}(h:w.heap[b]?=some (.cells cs t fr))(hq:cs.toList.all I9=true):∀o v,w.cell? ⟨b,o,none⟩=some v→Qt v:=fun o v hv=>by
 rw[aM w b o cs t fr h] at hv;exact acQ (List.all_eq_true.1 hq v (by simpa using Array.mem_of_getElem? hv))
structure jx(w:ag)(kb:Nat)(lo:Nat→Prop)(T:List jK):Prop where
 le:T.length≤4
 c0:w.cell? ⟨kb,0,none⟩=some (.i T.length)
 th:w.there kb 0 17
 row:∀(r:Nat) t,T[r]?=some t→∃a c,w.rangeAt kb (1+r*4) (iD t a c)∧dK w lo a t.fr
 q:∀o v,w.cell? ⟨kb,o,none⟩=some v→Qt v
def zf(T:List jK)(r:Int):jK:=if 0≤r∧r<T.length then T.getD r.toNat iM else iM
theorem Tj(w:ag)(a:bG):(binOp .eql 101 (.pointer (some a)) (.pointer none)).run prog w=.ok (.F) w:=by kernel_rfl
section
variable{w:World}{kb:Nat}{lo:Nat→Prop}{T:List jK}
theorem jx.lt(h:jx w kb lo T):kb<w.heap.size:=cA _ _ h.c0
theorem jx.kept(h:jx w kb lo T){Z:Nat→Prop}{w':ag}(hk:cQ Z w w')(h1:¬Z kb)(h2:∀b,lo b→¬Z b):jx w' kb lo T:=
 ⟨h.le,(hk.cell (p:=⟨kb,0,none⟩) h.lt h1).trans h.c0,fun j hj=>by
  obtain⟨e1,e2⟩:=h.th j hj;exact⟨by rw[hk.cell (p:=⟨kb,0+j,none⟩) h.lt h1];exact e1,(hk.frozen (p:=⟨kb,0+j,none⟩) h.lt h1).trans e2⟩,fun r t ht=>by
  obtain⟨a,c,e1,e2⟩:=h.row r t ht;exact⟨a,c,fun j u hu=>(hk.cell (p:=⟨kb,1+r*4+j,none⟩) h.lt h1).trans (e1 j u hu),e2.kept hk (fun b hb _=>h2 b hb)⟩,fun o v hv=>h.q o v ((hk.cell (p:=⟨kb,o,none⟩) h.lt h1).symm.trans hv)⟩
end
theorem Et(w:ag)(kb n r:Nat)(g:FuncId)(cp:Array ay)(DG:∀args w,(callFunc g args).run prog w=.ok (.enter g args) w)
  (hc:w.cell? ⟨kb,0,none⟩=some (.i n)) (hr:r<n) (hn:n≤4) (Q:ay→ag→Prop) (A:Array ay) (hA:#[.pointer (some ⟨kb,1+r*4,none⟩)]++cp=A) (hQ:aA prog g A w fun e w'=>∃v,e=.returned v∧Q v w'):
  aA prog 167 #[.p kb,.i r,.func (.func g) #[] cp] w fun e w'=>∃v,e=.returned v∧Q v w':=by
 have q:=fun w=>Tj w ⟨kb,0,none⟩
 have h1:decide ((r:Int)<0)=false:=by simp
 have h2:decide (n≤r)=false:=by simp;omega
 have h3:(r:Int)<4:=by omega
 subst hA;have HQ:=cD hQ;clear hQ;go_enter func167,ntmps167
 go_wp2
 refine HQ.out.mono ?_;rintro e w' ⟨v,rfl,hv⟩;have HV:=cD hv;clear hv;go_wp2
 go_ret
 exact⟨_,rfl,HV.out⟩
theorem zU(w:ag)(kb n:Nat)(r:Int)(v:ay)(hc:w.cell? ⟨kb,0,none⟩=some (.i n))(hr:cV.out r n):
  aA prog 167 #[.p kb,.i r,v] w fun e w'=>e=.returned (.i 1)∧w'=w:=by
 have q:=fun w=>Tj w ⟨kb,0,none⟩
 unfold cV.out at hr;by_cases h0:r<0
 ·have h1:decide (r<0)=true:=by simp;omega
  go_enter func167,ntmps167
  go_wp2
  go_ret
  exact⟨rfl,rfl⟩
 have h1:decide (r<0)=false:=by simp;omega
 have h2:decide ((n:Int)≤r)=true:=by simp;omega
 go_enter func167,ntmps167
 go_wp2
 go_ret
 exact⟨rfl,rfl⟩
theorem Py:∀args w,(callFunc 168 args).run prog w=.ok (.enter 168 args) w:=cq func168 cJ rfl
theorem WR:∀args w,(callFunc 289 args).run prog w=.ok (.enter 289 args) w:=cq func289 cJ rfl
theorem Tm:∀args w,(callFunc 290 args).run prog w=.ok (.enter 290 args) w:=cq func290 cJ rfl
def wL(w:ag)(pe pf ep:Nat)(hd:Bool)(v:ay)(w':ag):Prop:=
 cQ (fun b=>b=pe∨b=pf) w w'∧aH w' pe 36 (.v ((if hd then ep else 0:Nat):Int))∧aH w' pf 4 (.bool hd)
theorem O9(w:ag)(kb o pe pf:Nat)(ep:Nat)(hd:Bool)(x0:w.cell? ⟨kb,o,none⟩=some (.v ep))(x2:w.cell? ⟨kb,o+2,none⟩=some (.bool hd))
  (E1:aH w pe 36 (.V)) (E2:aH w pf 4 (.F)) (hk:pe≠pf):
  aA prog 168 #[.pointer (some ⟨kb,o,none⟩),.p pe,.p pf] w fun e w'=>∃v,e=.returned v∧wL w pe pf ep hd v w':=by
 have a1:=E1.cell;have a2:=E1.frozen;cases hd with
 |false=>
  have H:=cD (show∀v,wL w pe pf ep false v w from fun v=>⟨cQ.refl _ _,E1,E2⟩);clear E1 E2;go_enter func168,ntmps168
  go_wp2
  go_ret
  exact⟨_,rfl,H.out _⟩
 |true=>
 have c1:=E1.set (.v ep);have c2:=E2.other (B':=pe) (fun e=>hk e.symm) (.v ep);have b1:=c2.cell;have b2:=c2.frozen;have H:=cD (show∀v,wL w pe pf ep true v ((w.setCell ⟨pe,0,none⟩ (.v ep)).setCell ⟨pf,0,none⟩ (.T)) from fun v=>⟨((cQ.refl _ w).setCell (S:=fun b=>b=pe∨b=pf) (p:=⟨pe,0,none⟩) (.inl rfl) _).setCell (p:=⟨pf,0,none⟩) (.inr rfl) _,c1.other hk _,c2.set _⟩);clear E1 E2 c1 c2;go_enter func168,ntmps168
 go_wp2
 go_ret
 exact⟨_,rfl,H.out _⟩
theorem zj{fn:Func}{p q:Tmp}{ty Y5:bN}(h:fn.results=#[.cell p ty,.cell q Y5])(tmps:Array ay)(P:Program)(w:ag):
  (results fn tmps).run P w=((asAddr (tmps.getD p aI)).run P w).andThen fun a w₁=>((cB ty a).run P w₁).andThen fun x w₂=>((asAddr (tmps.getD q aI)).run P w₂).andThen fun a2 w₃=>((cB Y5 a2).run P w₃).andThen fun y w₄=>.ok (.tuple #[x,y]) w₄:=by
 simp only[results,h];simp[bK,bQ]
theorem As{P:Program}{fn:Func}{p q:Tmp}{ty Y5:bN}(h:fn.results=#[.cell p ty,.cell q Y5])(tmps:Array ay)(w:ag)(b b2:Nat)(x y:ay)
  (hp:tmps.getD p aI=.p b) (hq:tmps.getD q aI=.p b2) (h1:(cB ty ⟨b,0,none⟩).run P w=.ok x w) (h2:(cB Y5 ⟨b2,0,none⟩).run P w=.ok y w):
  (results fn tmps).run P w=.ok (.tuple #[x,y]) w:=by
 rw[zj h,hp,hq];simp[asAddr,h1,h2,bQ]
theorem BJ{W:ag}{B:Nat}{t:bN}{v:ay}(h:aH W B t v):aH W.drew B t v:=h
theorem RY{w:ag}{b:Nat}{x:ay}(h:w.cell? ⟨b,0,none⟩=some x):(cB 36 ⟨b,0,none⟩).run prog w=.ok x w:=by
 go_simp
theorem OJ{w:ag}{b:Nat}{x:ay}(h:w.cell? ⟨b,0,none⟩=some x):(cB 4 ⟨b,0,none⟩).run prog w=.ok x w:=by
 go_simp
theorem Ie(w:ag)(kb:Nat)(lo:Nat→Prop)(T:List jK)(h:jx w kb lo T)(r:Int):
  aA prog 65 #[.p kb,.i r] w fun e w'=>e=.returned (.tuple #[.v ((if (zf T r).held then (zf T r).ep else 0:Nat):Int),.bool (zf T r).held])∧cE w w':=by
 obtain⟨w1,hw1⟩:=cF (w.alloc (.cells #[.V] 36));obtain⟨w2,fH⟩:=cF (w1.alloc (.cells #[.F] 4));have E1:aH w2 w.heap.size 36 (.V):=by rw[fH,hw1];exact(au w _ _).alloc _
 have hs1:w1.heap.size=w.heap.size+1:=by rw[hw1];exact ah _ _
 have E2:aH w2 w1.heap.size 4 (.F):=by rw[fH];exact au w1 _ _
 have dI:cE w w2:=by rw[fH,hw1];exact cT (cT (af _ _) _) _
 have hT:=h.kept (dA (S:=fun _=>False) dI) (fun e=>e) (fun _ _ e=>e);have Jo:Hid (aA prog 167 #[.p kb,.i r,.func (.func 168) #[] #[.p w.heap.size,.p w1.heap.size]] w2 fun e w'=>∃v,e=.returned v∧wL w2 w.heap.size w1.heap.size (zf T r).ep (zf T r).held v w'):=cD (by
  by_cases hr:0≤r∧r<T.length
  ·obtain⟨n,rfl⟩:∃n:Nat,r=n:=⟨r.toNat,by omega⟩
   have hn:n<T.length:=by omega
   obtain⟨a,c,e1,_⟩:=hT.row n _ (aa hn);have hg:zf T n=T[n]:=by unfold zf;rw[if_pos hr];simp[bM,aa hn]
   rw[hg];exact Et w2 kb T.length n 168 _ Py hT.c0 hn hT.le _ _ cM (O9 w2 kb (1+n*4) _ _ _ _ (e1 0 _ rfl) (e1 2 _ rfl) E1 E2 cK)
  have hg:zf T r=iM:=by unfold zf;rw[if_neg hr]
  rw[hg];refine(zU w2 kb T.length r _ hT.c0 (by unfold cV.out;omega)).mono ?_;rintro e w' ⟨rfl,rfl⟩;exact⟨_,rfl,cQ.refl _ _,E1,E2⟩)
 have HW:=cD (cC hw1 (cC fH (cC dI hs1)));generalize zf T r=t at Jo⊢;unfold wL at Jo;generalize (if t.held=true then t.ep else 0)=x at Jo⊢;generalize t.held=hd at Jo⊢;clear h hT hw1 fH E1 E2 hs1 dI;obtain⟨pe,hpe⟩:=cF w.heap.size;obtain⟨pf,hpf⟩:=cF w1.heap.size;rw[←hpe,←hpf] at Jo;have I4:=cD (cC hpe hpf);have hne:pe≠pf:=by rw[hpe,hpf,HW.out.2.2.2];omega
 clear hpe hpf;go_enter func65,ntmps65
 go_wp2_with (first|(rw[←HW.out.2.1,←I4.out.2])|(rw[←HW.out.1,←I4.out.1]))
 refine Jo.out.mono ?_;rintro e w3 ⟨v,rfl,hk,c1,c2⟩;have HK:=cD hk;have Xu:=cD c1;have HC2:=cD c2;have a1:=c1.cell;have a2:=c1.frozen;have a3:=c2.cell;have a4:=c2.frozen;clear hk c1 c2;go_wp2
 go_region
 have k1:=((Xu.out.set (.v (x:Int))).other hne (.bool hd));have k2:=((HC2.out.other (B':=pe) (fun e=>hne e.symm) (.v (x:Int))).set (.bool hd));have kk:=(((cQ.refl (fun b=>b=pe∨b=pf) w3).setCell (p:=⟨pe,0,none⟩) (.inl rfl) (.v (x:Int))).setCell (p:=⟨pf,0,none⟩) (.inr rfl) (.bool hd)).drew;have m1:=BJ k1;have m2:=BJ k2;have KK:=cD (cC kk (cC m1.cell m2.cell));clear k1 k2 kk m1 m2 a1 a2 a3 a4;go_wp2
 refine bodyPost_ret (As rfl _ _ pe pf _ _ rfl rfl (RY KK.out.2.1) (OJ KK.out.2.2)) rfl ?_;obtain⟨h1,h2,h3,h4⟩:=HW.out;exact⟨rfl,h3.trans ((HK.out.trans KK.out.1).below h3.size (fun b e=>by have:=I4.out;have e:b=pe∨b=pf:=e;omega))⟩
theorem jx.mono{w:ag}{kb:Nat}{lo lo':Nat→Prop}{T:List jK}(h:jx w kb lo T)(hl:∀b,lo b→lo' b):jx w kb lo' T:=
 ⟨h.le,h.c0,h.th,fun r t ht=>by
  obtain⟨a,c,e1,e2⟩:=h.row r t ht;exact⟨a,c,e1,e2.mono (fun b _ hb=>hl b hb)⟩,h.q⟩
theorem jx.set{w:ag}{kb:Nat}{lo:Nat→Prop}{T:List jK}(h:jx w kb lo T){r:Nat}(hr:r<T.length)(hlo:¬lo kb)(t:jK)(a:Option bG)(c:Nat)(hst:dK w lo a t.fr):
  jx (w.setCells kb (1+r*4) (iD t a c)) kb lo (T.set r t):=by
 have hle:=h.le;have Jc:(iD t a c).length=4:=rfl;have hk:=iw w kb (1+r*4) (iD t a c);have sA:w.there kb (1+r*4) (iD t a c).length:=fun j hj=>by
  have:=h.th (1+r*4+j) (by rw[Jc] at hj;omega)
  rwa [aK] at this
 refine⟨by rw[bT];exact hle,?_,World.there_setCells h.th _ _ _,fun r' t' ht'=>?_,fun o v hv=>?_⟩
 ·rw[bT,cu _ _ _ _ _ (fun _ _=>.inl (by show 0<_;omega))]
  exact h.c0
 ·by_cases e:r'=r
  ·subst e
   rw[aaa hr] at ht';cases ht';exact⟨a,c,aF _ _ _ _ (fun j hj=>by
    have:=h.th (1+r'*4+j) (by rw[Jc] at hj;omega)
    rwa [aK] at this),hst.kept hk (fun b hb _ e=>hlo (by cases e;exact hb))⟩
  rw[bz (fun e'=>e e'.symm)] at ht';obtain⟨a',c',e1,e2⟩:=h.row r' t' ht';exact⟨a',c',World.rangeAt_setCells_apart e1 _ _ _ (.inr (by show _+4≤_∨_+4≤_;omega)),e2.kept hk (fun b hb _ e=>hlo (by cases e;exact hb))⟩
 by_cases ho:1+r*4≤o∧o<1+r*4+4
 ·obtain⟨j,rfl⟩:∃j,o=1+r*4+j:=⟨o - (1+r*4),by omega⟩
  obtain⟨u,hu⟩:∃u,(iD t a c)[j]?=some u:=⟨_,aa (by rw[Jc];omega)⟩;have h5:=aF w kb (1+r*4) (iD t a c) sA j u hu;rw[h5] at hv;cases hv;have hm:=bu hu;simp only[iD,List.mem_cons,List.not_mem_nil,or_false] at hm;rcases hm with rfl|rfl|rfl|rfl<;>exact⟨fun n e=>(by cases e),fun s e=>(by cases e)⟩
 rw[cu _ _ _ _ _ (fun _ _=>by show o<1+r*4∨1+r*4+(iD t a c).length≤o;rw[Jc];omega)] at hv;exact h.q o v hv
def Sl(t:jK)(ep:Nat)(fr V:List Nat):Int:=if t.held=true∨ep≤t.ep then 61 else if kI fr V=false then 62 else 0
def I0(w:ag)(kb r:Nat)(lo:Nat→Prop)(T:List jK)(ep:Nat)(fr V:List Nat)(v:ay)(w':ag):Prop:=
 v=.i (Sl (T.getD r iM) ep fr V)∧cQ (·=kb) w w'∧jx w' kb (fun b=>lo b∨w.heap.size≤b) (if Sl (T.getD r iM) ep fr V=0 then T.set r ⟨ep,fr,true,false⟩ else T)
theorem Wg(w:ag)(kb r:Nat)(lo:Nat→Prop)(T:List jK)(h:jx w kb lo T)(hr:r<T.length)(hlo:¬lo kb)(ep:Nat)(fr V:List Nat)(be bf bv:Nat)(fa va:Option bG)(fc vc:Nat)(l1 l2:Nat→Prop)
  (E1:aH w be 36 (.v ep)) (E2:aH w bf 37 (.slice fa fr.length fc)) (E3:aH w bv 37 (.slice va V.length vc)) (hf:dK w l1 fa fr) (hv:dK w l2 va V) (hl1:fr.length≤1000) (hl2:V.length≤1000) (hbe:be≠kb) (MU:bf≠kb):
  aA prog 289 #[.pointer (some ⟨kb,1+r*4,none⟩),.p be,.p bf,.p bv] w fun e w'=>∃v,e=.returned v∧I0 w kb r lo T ep fr V v w':=by
 have hg:T.getD r iM=T[r]:=by simp[bM,aa hr]
 obtain⟨a,c,e1,e2⟩:=h.row r _ (aa hr);rw[←hg] at e1 e2;have HT:=cD (cC h (cC hr hlo));have HS:=cD (cC hf (cC hv (cC hl1 hl2)));obtain⟨t,ht⟩:=cF (T.getD r iM);rw[←ht] at e1 e2;have hkl:=h.lt;have y0:∀w',cE w w'→w'.cell? ⟨kb,1+r*4,none⟩=some (.v (t.ep:Int)):=fun w' hb=>(hb.cell (p:=⟨kb,1+r*4,none⟩) hkl).trans (e1 0 _ rfl)
 have y2:∀w',cE w w'→w'.cell? ⟨kb,1+r*4+2,none⟩=some (.bool t.held):=fun w' hb=>(hb.cell (p:=⟨kb,1+r*4+2,none⟩) hkl).trans (e1 2 _ rfl)
 have z1:∀w',cE w w'→w'.cell? ⟨be,0,none⟩=some (.v (ep:Int)):=fun w' hb=>(hb.cell (p:=⟨be,0,none⟩) E1.lt).trans E1.cell
 have z2:∀w',cE w w'→w'.cell? ⟨bf,0,none⟩=some (.slice fa fr.length fc):=fun w' hb=>(hb.cell (p:=⟨bf,0,none⟩) E2.lt).trans E2.cell
 have z3:∀w',cE w w'→w'.cell? ⟨bv,0,none⟩=some (.slice va V.length vc):=fun w' hb=>(hb.cell (p:=⟨bv,0,none⟩) E3.lt).trans E3.cell
 have Ul:=cD (cC E1.lt (cC hbe (cC E2.lt MU)));have HZ:=cD (cC z1 (cC z2 z3));have Xk:=cD ht;obtain⟨Tl,sO⟩:∃x,x=t.ep:=⟨_,rfl⟩;obtain⟨hd,wT⟩:∃x,x=t.held:=⟨_,rfl⟩;obtain⟨o,ho⟩:∃o,o=1+r*4:=⟨_,rfl⟩;rw[←sO,←ho] at y0;rw[←wT,←ho] at y2;rw[←ho];have Qj:=cD (cC sO (cC wT ho));clear sO wT ho e1 e2 hg h hr hlo hf hv E1 E2 E3 ht;obtain⟨n1,zN⟩:∃n,n=fr.length:=⟨_,rfl⟩;obtain⟨n2,hn2⟩:∃n,n=V.length:=⟨_,rfl⟩;rw[←zN] at z2;rw[←hn2] at z3;have Qd:=cD (cC zN hn2);clear zN hn2;go_enter func289,ntmps289
 go_upto_region 1 with fail
 cases hd with
 |true=>
  refine rB fun wd hS=>?_
  refine tI 0 rfl hS ?_;refine tI 1 rfl hS ?_;refine tI 2 rfl hS ?_;refine tJ 3 rfl hS y2 ?_;simp only[cR];refine tI 4 rfl hS ?_;refine tN 5 rfl hS ?_;refine tN 6 rfl hS ?_;refine tN 7 rfl hS ?_;simp only[cR];refine tN 8 rfl hS ?_;refine tN 9 rfl hS ?_;refine tN 10 rfl hS ?_;refine tI 11 rfl hS ?_;simp only[cR];refine tI 12 rfl hS ?_;simp only[cR];refine aL cJ ?_ _;have sH:=cD hS;clear hS;go_wp2
  go_ret
  refine⟨_,rfl,?_⟩;have hz:Sl (T.getD r iM) ep fr V=61:=by unfold Sl;rw[if_pos (.inl (by rw[←Xk.out,←Qj.out.2.1]))]
  unfold I0;rw[hz];have hk:=dA (S:=(·=kb)) sH.out;exact⟨rfl,hk,by rw[if_neg cL];exact(HT.out.1.mono (fun _ h=>.inl h)).kept (dA (S:=fun _=>False) sH.out) (fun e=>e) (fun _ _ e=>e)⟩
 |false=>
 refine rB fun wd hS=>?_
 refine tI 0 rfl hS ?_;refine tI 1 rfl hS ?_;refine tI 2 rfl hS ?_;refine tJ 3 rfl hS y2 ?_;simp only[cR];refine tI 4 rfl hS ?_;refine tJ 5 rfl hS z1 ?_;refine tI 6 rfl hS ?_;refine tI 7 rfl hS ?_;simp only[cR];refine tI 8 rfl hS ?_;refine tJ 9 rfl hS y0 ?_;refine tI 10 rfl hS ?_;refine tI 11 rfl hS ?_;simp only[cR];refine tI 12 rfl hS ?_;simp only[cR];refine aL cJ ?_ _;have sH:=cD hS;clear hS;obtain⟨lq,hlq⟩:=cF (decide (ep≤Tl));rw[←hlq];have HLQ:=cD hlq;clear hlq;cases lq with
 |true=>
  go_wp2
  go_ret
  refine⟨_,rfl,?_⟩;have hz:Sl (T.getD r iM) ep fr V=61:=by unfold Sl;rw[if_pos (.inr (by rw[←Xk.out,←Qj.out.1];exact of_decide_eq_true HLQ.out.symm))]
  unfold I0;rw[hz];have hk:=dA (S:=(·=kb)) sH.out;exact⟨rfl,hk,by rw[if_neg cL];exact(HT.out.1.mono (fun _ h=>.inl h)).kept (dA (S:=fun _=>False) sH.out) (fun e=>e) (fun _ _ e=>e)⟩
 |false=>
 have x2:=z2 wd sH.out;have x3:=z3 wd sH.out;have YM:=cD (MB wd fa va fc vc fr V l1 l2 HS.out.2.2.1 HS.out.2.2.2 (HS.out.1.below sH.out) (HS.out.2.1.below sH.out));rw[←Qd.out.1,←Qd.out.2] at YM;obtain⟨ok,hok⟩:=cF (kI fr V);rw[←hok] at YM;have Nq:=cD hok;have hz0:Sl (T.getD r iM) ep fr V=if ok=false then 62 else 0:=by
  unfold Sl;rw[if_neg (by
   rw[←Xk.out,←Qj.out.1,←Qj.out.2.1];have:=of_decide_eq_false HLQ.out.symm;simp only[Bool.false_eq_true,false_or];exact this),hok]
 have HZ0:=cD hz0;clear hok hz0;go_wp2_with fail
 refine YM.out.mono ?_;rintro e w2 ⟨rfl,dI⟩;have iK:=cD (sH.out.trans (dI.mono sH.out.size));clear dI x2 x3;cases ok with
 |false=>
  go_wp2
  go_ret
  refine⟨_,rfl,?_⟩;unfold I0;rw[HZ0.out,if_pos trivial];exact⟨rfl,dA (S:=(·=kb)) iK.out,by rw[if_neg cL];exact(HT.out.1.mono (fun _ h=>.inl h)).kept (dA (S:=fun _=>False) iK.out) (fun e=>e) (fun _ _ e=>e)⟩
 |true=>
 have q1:∀w',cQ (·=kb) w2 w'→w'.cell? ⟨be,0,none⟩=some (.v (ep:Int)):=fun w' hk=>(hk.cell (p:=⟨be,0,none⟩) (an Ul.out.1 iK.out.size) Ul.out.2.1).trans (HZ.out.1 w2 iK.out)
 have q2:∀w',cQ (·=kb) w2 w'→w'.cell? ⟨bf,0,none⟩=some (.slice fa n1 fc):=fun w' hk=>by rw[Qd.out.1];exact(hk.cell (p:=⟨bf,0,none⟩) (an Ul.out.2.2.1 iK.out.size) Ul.out.2.2.2).trans (HZ.out.2.1 w2 iK.out)
 have pT:Hid (∀W,cE w2 W→aA prog 46 #[.slice fa n1 fc] W fun e w'=>∃a c,e=.returned (.slice a n1 c)∧dK w' (fU W.heap.size) a fr∧cE W w'):=cD (fun W hW=>by
  rw[Qd.out.1];refine(lJ W fa fc l1 fr (by have:=HS.out.2.2.1;omega) (HS.out.1.below (iK.out.trans (hW.mono iK.out.size)))).mono ?_;intro e w' h;obtain⟨a,c,h1,_,h2,h3⟩:=h.sl;exact⟨a,c,h1,h2,h3⟩)
 have HTK:Hid (cG 192 4):=cD cJ;clear y0 y2 z1 z2 z3;go_wp2_with fail
 refine rT fun Y2 hd=>?_
 refine NC (S':=fun w'=>cQ (·=kb) w2 w') (fun _ _=>trivial) _ _ _ _ ?_;have hS:cQ (·=kb) w2 Y2:=dA hd;refine tI 0 rfl hS ?_;refine tJ 1 rfl hS q1 ?_;refine tJ 2 rfl hS q2 ?_;simp only[cR];refine cI 3 rfl ?_;refine(pT.out Y2 hd).mono ?_;rintro e w3 ⟨a3,c3,rfl,Z4,eO⟩;have Yf:cE w2 w3:=hd.trans (eO.mono hd.size);have ek:cQ (·=kb) w2 w3:=dA Yf;refine⟨ek,?_⟩;simp only[cR];refine gI 4 rfl (.agg #[.v (ep:Int),.slice a3 n1 c3,.T,.F]) _ ek ?_;simp only[cR];refine tI 5 rfl ek ?_;simp only[cR];have mQ:=cD (iK.out.trans (Yf.mono iK.out.size));have DI:=(HT.out.1.mono (lo':=fun b=>lo b∨w.heap.size≤b) (fun _ h=>.inl h)).kept (dA (S:=fun _=>False) mQ.out) (fun e=>e) (fun _ _ e=>e);have E8:=DI.set HT.out.2.1 (fun h=>by rcases h with h|h;exact HT.out.2.2 h;have:=HT.out.1.lt;omega) ⟨ep,fr,true,false⟩ a3 c3 (Z4.mono (fun b _ hb=>.inr (by have hb:Y2.heap.size≤b:=hb;have:=hd.size;have:=iK.out.size;omega)));have sA:w3.there kb (1+r*4) 4:=fun j hj=>by
  have:=DI.th (1+r*4+j) (by have:=HT.out.2.1;have:=HT.out.1.le;omega)
  rwa [aK] at this
 have abw:=cD (cC E8 ((dA (S:=(·=kb)) mQ.out).trans (iw w3 kb (1+r*4) (iD ⟨ep,fr,true,false⟩ a3 c3))));rw[←Qj.out.2.2] at sA;clear E8 DI;refine sI 6 rfl 192 (.tmp 29) (.tmp 28) kb o #[.v (ep:Int),.slice a3 n1 c3,.T,.F] sA HTK.out (by simp[aS]) (ek.trans (iw w3 kb o _)) ?_;simp only[cR];refine aL cJ ?_ _;go_wp2
 go_ret
 refine⟨_,rfl,?_⟩;unfold I0;rw[HZ0.out,if_neg cL,if_pos rfl];have e1:(w3.setCells kb o [.v (ep:Int),.slice a3 n1 c3,.T,.F])=w3.setCells kb (1+r*4) (iD ⟨ep,fr,true,false⟩ a3 c3):=by rw[Qj.out.2.2,Qd.out.1];rfl
 have:=abw.out;rw[←e1] at this;exact⟨rfl,this.2,this.1⟩
def AE(t:jK)(ep:Nat):Int:=if t.held=false∨t.ep≠ep then 61 else 0
def FF(w:ag)(kb r:Nat)(lo:Nat→Prop)(T:List jK)(ep:Nat)(V:List Nat)(v:ay)(w':ag):Prop:=
 v=.i (AE (T.getD r iM) ep)∧cQ (·=kb) w w'∧jx w' kb (fun b=>lo b∨w.heap.size≤b) (if AE (T.getD r iM) ep=0 then T.set r ⟨ep,V,false,true⟩ else T)
theorem Rx(w:ag)(kb r:Nat)(lo:Nat→Prop)(T:List jK)(h:jx w kb lo T)(hr:r<T.length)(hlo:¬lo kb)(ep:Nat)(V:List Nat)(be bf:Nat)(fa:Option bG)(fc:Nat)(l1:Nat→Prop)
  (E1:aH w be 36 (.v ep)) (E2:aH w bf 37 (.slice fa V.length fc)) (hf:dK w l1 fa V) (hl1:V.length≤1000) (hbe:be≠kb) (MU:bf≠kb):
  aA prog 290 #[.pointer (some ⟨kb,1+r*4,none⟩),.p be,.p bf] w fun e w'=>∃v,e=.returned v∧FF w kb r lo T ep V v w':=by
 have hg:T.getD r iM=T[r]:=by simp[bM,aa hr]
 obtain⟨a,c,e1,e2⟩:=h.row r _ (aa hr);rw[←hg] at e1 e2;have HT:=cD (cC h (cC hr hlo));have HS:=cD (cC hf hl1);obtain⟨t,ht⟩:=cF (T.getD r iM);rw[←ht] at e1 e2;have hkl:=h.lt;have y0:∀w',cE w w'→w'.cell? ⟨kb,1+r*4,none⟩=some (.v (t.ep:Int)):=fun w' hb=>(hb.cell (p:=⟨kb,1+r*4,none⟩) hkl).trans (e1 0 _ rfl)
 have y2:∀w',cE w w'→w'.cell? ⟨kb,1+r*4+2,none⟩=some (.bool t.held):=fun w' hb=>(hb.cell (p:=⟨kb,1+r*4+2,none⟩) hkl).trans (e1 2 _ rfl)
 have z1:∀w',cE w w'→w'.cell? ⟨be,0,none⟩=some (.v (ep:Int)):=fun w' hb=>(hb.cell (p:=⟨be,0,none⟩) E1.lt).trans E1.cell
 have z2:∀w',cE w w'→w'.cell? ⟨bf,0,none⟩=some (.slice fa V.length fc):=fun w' hb=>(hb.cell (p:=⟨bf,0,none⟩) E2.lt).trans E2.cell
 have Ul:=cD (cC E1.lt (cC hbe (cC E2.lt MU)));have HZ:=cD (cC z1 z2);have Xk:=cD ht;obtain⟨Tl,sO⟩:∃x,x=t.ep:=⟨_,rfl⟩;obtain⟨hd,wT⟩:∃x,x=t.held:=⟨_,rfl⟩;obtain⟨o,ho⟩:∃o,o=1+r*4:=⟨_,rfl⟩;rw[←sO,←ho] at y0;rw[←wT,←ho] at y2;rw[←ho];have Qj:=cD (cC sO (cC wT ho));clear sO wT ho e1 e2 hg h hr hlo hf E1 E2 ht;obtain⟨n1,zN⟩:∃n,n=V.length:=⟨_,rfl⟩;rw[←zN] at z2;have Qd:=cD zN;clear zN;go_enter func290,ntmps290
 go_upto_region 1 with fail
 cases hd with
 |false=>
  refine rB fun wd hS=>?_
  refine tI 0 rfl hS ?_;refine tI 1 rfl hS ?_;refine tI 2 rfl hS ?_;refine tJ 3 rfl hS y2 ?_;simp only[cR];refine tI 4 rfl hS ?_;refine tI 5 rfl hS ?_;refine tN 6 rfl hS ?_;refine tN 7 rfl hS ?_;simp only[cR];refine tN 8 rfl hS ?_;refine tN 9 rfl hS ?_;refine tN 10 rfl hS ?_;refine tN 11 rfl hS ?_;simp only[cR];refine tI 12 rfl hS ?_;simp only[cR];refine aL cJ ?_ _;have sH:=cD hS;clear hS;go_wp2
  go_ret
  refine⟨_,rfl,?_⟩;have hz:AE (T.getD r iM) ep=61:=by unfold AE;rw[if_pos (.inl (by rw[←Xk.out,←Qj.out.2.1]))]
  unfold FF;rw[hz];have hk:=dA (S:=(·=kb)) sH.out;exact⟨rfl,hk,by rw[if_neg cL];exact(HT.out.1.mono (fun _ h=>.inl h)).kept (dA (S:=fun _=>False) sH.out) (fun e=>e) (fun _ _ e=>e)⟩
 |true=>
 refine rB fun wd hS=>?_
 refine tI 0 rfl hS ?_;refine tI 1 rfl hS ?_;refine tI 2 rfl hS ?_;refine tJ 3 rfl hS y2 ?_;simp only[cR];refine tI 4 rfl hS ?_;refine tI 5 rfl hS ?_;refine tI 6 rfl hS ?_;refine tI 7 rfl hS ?_;simp only[cR];refine tI 8 rfl hS ?_;refine tJ 9 rfl hS y0 ?_;refine tJ 10 rfl hS z1 ?_;refine tI 11 rfl hS ?_;simp only[cR];refine tI 12 rfl hS ?_;simp only[cR];refine aL cJ ?_ _;have sH:=cD hS;clear hS;by_cases heq:Tl=ep
 ·have t1:decide (Tl=ep)=true:=by simp[heq]
  have hz0:AE (T.getD r iM) ep=0:=by
   unfold AE;rw[if_neg (by rw[←Xk.out,←Qj.out.1,←Qj.out.2.1];simp[heq])]
  have HZ0:=cD hz0;clear hz0;have q1:∀w',cQ (·=kb) wd w'→w'.cell? ⟨be,0,none⟩=some (.v (ep:Int)):=fun w' hk=>(hk.cell (p:=⟨be,0,none⟩) (an Ul.out.1 sH.out.size) Ul.out.2.1).trans (HZ.out.1 wd sH.out)
  have q2:∀w',cQ (·=kb) wd w'→w'.cell? ⟨bf,0,none⟩=some (.slice fa n1 fc):=fun w' hk=>by rw[Qd.out];exact(hk.cell (p:=⟨bf,0,none⟩) (an Ul.out.2.2.1 sH.out.size) Ul.out.2.2.2).trans (HZ.out.2 wd sH.out)
  have pT:Hid (∀W,cE wd W→aA prog 46 #[.slice fa n1 fc] W fun e w'=>∃a c,e=.returned (.slice a n1 c)∧dK w' (fU W.heap.size) a V∧cE W w'):=cD (fun W hW=>by
   rw[Qd.out];refine(lJ W fa fc l1 V (by have:=HS.out.2;omega) (HS.out.1.below (sH.out.trans (hW.mono sH.out.size)))).mono ?_;intro e w' h;obtain⟨a,c,h1,_,h2,h3⟩:=h.sl;exact⟨a,c,h1,h2,h3⟩)
  have HTK:Hid (cG 192 4):=cD cJ;clear y0 y2 z1 z2;subst heq;go_wp2_with fail
  refine rT fun Y2 hd=>?_
  refine NC (S':=fun w'=>cQ (·=kb) wd w') (fun _ _=>trivial) _ _ _ _ ?_;have hS:cQ (·=kb) wd Y2:=dA hd;refine tI 0 rfl hS ?_;refine tJ 1 rfl hS q1 ?_;refine tJ 2 rfl hS q2 ?_;simp only[cR];refine cI 3 rfl ?_;refine(pT.out Y2 hd).mono ?_;rintro e w3 ⟨a3,c3,rfl,Z4,eO⟩;have Yf:cE wd w3:=hd.trans (eO.mono hd.size);have ek:cQ (·=kb) wd w3:=dA Yf;refine⟨ek,?_⟩;simp only[cR];refine gI 4 rfl (.agg #[.v (Tl:Int),.slice a3 n1 c3,.F,.T]) _ ek ?_;simp only[cR];refine tI 5 rfl ek ?_;simp only[cR];have mQ:=cD (sH.out.trans (Yf.mono sH.out.size));have DI:=(HT.out.1.mono (lo':=fun b=>lo b∨w.heap.size≤b) (fun _ h=>.inl h)).kept (dA (S:=fun _=>False) mQ.out) (fun e=>e) (fun _ _ e=>e);have E8:=DI.set HT.out.2.1 (fun h=>by rcases h with h|h;exact HT.out.2.2 h;have:=HT.out.1.lt;omega) ⟨Tl,V,false,true⟩ a3 c3 (Z4.mono (fun b _ hb=>.inr (by have hb:Y2.heap.size≤b:=hb;have:=hd.size;have:=sH.out.size;omega)));have sA:w3.there kb (1+r*4) 4:=fun j hj=>by
   have:=DI.th (1+r*4+j) (by have:=HT.out.2.1;have:=HT.out.1.le;omega)
   rwa [aK] at this
  have abw:=cD (cC E8 ((dA (S:=(·=kb)) mQ.out).trans (iw w3 kb (1+r*4) (iD ⟨Tl,V,false,true⟩ a3 c3))));rw[←Qj.out.2.2] at sA;clear E8 DI;refine sI 6 rfl 192 (.tmp 23) (.tmp 22) kb o #[.v (Tl:Int),.slice a3 n1 c3,.F,.T] sA HTK.out (by simp[aS]) (ek.trans (iw w3 kb o _)) ?_;simp only[cR];refine aL cJ ?_ _;go_wp2
  go_ret
  refine⟨_,rfl,?_⟩;unfold FF;rw[HZ0.out,if_pos rfl];have e1:(w3.setCells kb o [.v (Tl:Int),.slice a3 n1 c3,.F,.T])=w3.setCells kb (1+r*4) (iD ⟨Tl,V,false,true⟩ a3 c3):=by rw[Qj.out.2.2,Qd.out];rfl
  have:=abw.out;rw[←e1] at this;exact⟨rfl,this.2,this.1⟩
 have t1:decide (Tl=ep)=false:=by simp[heq]
 have hz:AE (T.getD r iM) ep=61:=by unfold AE;rw[if_pos (.inr (by rw[←Xk.out,←Qj.out.1];exact heq))]
 have HZ0:=cD hz;clear hz y0 y2 z1 z2;go_wp2
 go_ret
 refine⟨_,rfl,?_⟩;unfold FF;rw[HZ0.out];exact⟨rfl,dA sH.out,by rw[if_neg cL];exact(HT.out.1.mono (fun _ h=>.inl h)).kept (dA (S:=fun _=>False) sH.out) (fun e=>e) (fun _ _ e=>e)⟩
def UC(T:List jK)(r:Int)(ep:Nat)(fr V:List Nat):Int×List jK:=
 if cV.out r T.length then (1,T) else (Sl (T.getD r.toNat iM) ep fr V,if Sl (T.getD r.toNat iM) ep fr V=0 then T.set r.toNat ⟨ep,fr,true,false⟩ else T)
def Cn(T:List jK)(r:Int)(ep:Nat)(V:List Nat):Int×List jK:=
 if cV.out r T.length then (1,T) else (AE (T.getD r.toNat iM) ep,if AE (T.getD r.toNat iM) ep=0 then T.set r.toNat ⟨ep,V,false,true⟩ else T)
def xZ(w:ag)(kb:Nat)(lo:Nat→Prop)(x:Int×List jK)(v:ay)(w':ag):Prop:=v=.i x.1∧cQ (·=kb) w w'∧jx w' kb (fun b=>lo b∨w.heap.size≤b) x.2
theorem jx.below{w w':ag}{kb:Nat}{lo:Nat→Prop}{T:List jK}(h:jx w kb lo T)(hb:cE w w'):jx w' kb lo T:=h.kept (dA (S:=fun _=>False) hb) (fun e=>e) (fun _ _ e=>e)
theorem ZQ(w:ag)(kb:Nat)(lo:Nat→Prop)(T:List jK)(h:jx w kb lo T)(r:Int)(hlo:¬lo kb)(ep:Nat)(fr V:List Nat)(fa va:Option bG)(fc vc:Nat)(l1 l2:Nat→Prop)
  (hf:dK w l1 fa fr) (hv:dK w l2 va V) (hl1:fr.length≤1000) (hl2:V.length≤1000):
  aA prog 252 #[.p kb,.i r,.v ep,.slice fa fr.length fc,.slice va V.length vc] w fun e w'=>∃v,e=.returned v∧xZ w kb lo (UC T r ep fr V) v w':=by
 obtain⟨w1,hw1⟩:=cF (w.alloc (.cells #[.v ep] 36));obtain⟨w2,fH⟩:=cF (w1.alloc (.cells #[.slice fa fr.length fc] 37));obtain⟨w3,kJ⟩:=cF (w2.alloc (.cells #[.slice va V.length vc] 37));have E1:aH w3 w.heap.size 36 (.v ep):=by rw[kJ,fH,hw1];exact((au w _ _).alloc _).alloc _
 have E2:aH w3 w1.heap.size 37 (.slice fa fr.length fc):=by rw[kJ,fH];exact(au w1 _ _).alloc _
 have E3:aH w3 w2.heap.size 37 (.slice va V.length vc):=by rw[kJ];exact au w2 _ _
 have hs1:w1.heap.size=w.heap.size+1:=by rw[hw1];exact ah _ _
 have eO:cE w w3:=by rw[kJ,fH,hw1];exact cT (cT (cT (af _ _) _) _) _
 have hkl:=h.lt;have Jo:Hid (aA prog 167 #[.p kb,.i r,.func (.func 289) #[] #[.p w.heap.size,.p w1.heap.size,.p w2.heap.size]] w3 fun e w'=>∃v,e=.returned v∧xZ w kb lo (UC T r ep fr V) v w'):=cD (by
  by_cases hr:cV.out r T.length
  ·refine(zU w3 kb T.length r _ (h.below eO).c0 hr).mono ?_
   rintro e w' ⟨rfl,rfl⟩;unfold UC;rw[if_pos hr];exact⟨_,rfl,rfl,dA eO,(h.below eO).mono (fun _ h=>.inl h)⟩
  have hr':=hr;unfold cV.out at hr';obtain⟨n,rfl⟩:∃n:Nat,r=n:=⟨r.toNat,by omega⟩;have hn:n<T.length:=by omega
  refine(Et w3 kb T.length n 289 _ WR (h.below eO).c0 hn h.le _ _ cM (Wg w3 kb n lo T (h.below eO) hn hlo ep fr V _ _ _ fa va fc vc l1 l2 E1 E2 E3 (hf.below eO) (hv.below eO) hl1 hl2 cK cK)).mono ?_;rintro e w' ⟨v,rfl,h1,h2,h3⟩;unfold UC;rw[if_neg hr];exact⟨v,rfl,h1,(dA eO).trans h2,h3.mono (fun b hb=>by rcases hb with hb|hb;exact .inl hb;exact .inr (aJ eO.size hb))⟩)
 have HW:=cD (cC hw1 (cC fH kJ));obtain⟨n1,zN⟩:∃n,n=fr.length:=⟨_,rfl⟩;obtain⟨n2,hn2⟩:∃n,n=V.length:=⟨_,rfl⟩;rw[←zN,←hn2] at HW;rw[←zN,←hn2];generalize UC T r ep fr V=x at Jo⊢;clear h hw1 fH kJ E1 E2 E3 hs1 eO hf hv hl1 hl2 hlo hkl zN hn2;go_enter func252,ntmps252
 go_wp2_with (first|rw[←HW.out.2.2]|rw[←HW.out.2.1]|rw[←HW.out.1])
 refine Jo.out.mono ?_;rintro e w4 ⟨v,rfl,hv⟩;have HV:=cD hv;clear hv;go_wp2
 go_ret
 exact⟨_,rfl,HV.out⟩
theorem VB(w:ag)(kb:Nat)(lo:Nat→Prop)(T:List jK)(h:jx w kb lo T)(r:Int)(hlo:¬lo kb)(ep:Nat)(V:List Nat)(va:Option bG)(vc:Nat)(l2:Nat→Prop)
  (hv:dK w l2 va V) (hl2:V.length≤1000):
  aA prog 253 #[.p kb,.i r,.v ep,.slice va V.length vc] w fun e w'=>∃v,e=.returned v∧xZ w kb lo (Cn T r ep V) v w':=by
 obtain⟨w1,hw1⟩:=cF (w.alloc (.cells #[.v ep] 36));obtain⟨w3,kJ⟩:=cF (w1.alloc (.cells #[.slice va V.length vc] 37));have E1:aH w3 w.heap.size 36 (.v ep):=by rw[kJ,hw1];exact(au w _ _).alloc _
 have E3:aH w3 w1.heap.size 37 (.slice va V.length vc):=by rw[kJ];exact au w1 _ _
 have hs1:w1.heap.size=w.heap.size+1:=by rw[hw1];exact ah _ _
 have eO:cE w w3:=by rw[kJ,hw1];exact cT (cT (af _ _) _) _
 have hkl:=h.lt;have Jo:Hid (aA prog 167 #[.p kb,.i r,.func (.func 290) #[] #[.p w.heap.size,.p w1.heap.size]] w3 fun e w'=>∃v,e=.returned v∧xZ w kb lo (Cn T r ep V) v w'):=cD (by
  by_cases hr:cV.out r T.length
  ·refine(zU w3 kb T.length r _ (h.below eO).c0 hr).mono ?_
   rintro e w' ⟨rfl,rfl⟩;unfold Cn;rw[if_pos hr];exact⟨_,rfl,rfl,dA eO,(h.below eO).mono (fun _ h=>.inl h)⟩
  have hr':=hr;unfold cV.out at hr';obtain⟨n,rfl⟩:∃n:Nat,r=n:=⟨r.toNat,by omega⟩;have hn:n<T.length:=by omega
  refine(Et w3 kb T.length n 290 _ Tm (h.below eO).c0 hn h.le _ _ cM (Rx w3 kb n lo T (h.below eO) hn hlo ep V _ _ va vc l2 E1 E3 (hv.below eO) hl2 cK cK)).mono ?_;rintro e w' ⟨v,rfl,h1,h2,h3⟩;unfold Cn;rw[if_neg hr];exact⟨v,rfl,h1,(dA eO).trans h2,h3.mono (fun b hb=>by rcases hb with hb|hb;exact .inl hb;exact .inr (aJ eO.size hb))⟩)
 have HW:=cD (cC hw1 kJ);obtain⟨n2,hn2⟩:∃n,n=V.length:=⟨_,rfl⟩;rw[←hn2] at HW;rw[←hn2];generalize Cn T r ep V=x at Jo⊢;clear h hw1 kJ E1 E3 hs1 eO hv hl2 hlo hkl hn2;go_enter func253,ntmps253
 go_wp2_with (first|rw[←HW.out.2]|rw[←HW.out.1])
 refine Jo.out.mono ?_;rintro e w4 ⟨v,rfl,hv⟩;have HV:=cD hv;clear hv;go_wp2
 go_ret
 exact⟨_,rfl,HV.out⟩
theorem Jv(w:ag)(n:Nat)(hn:n≤4)(lo:Nat→Prop):
  aA prog 42 #[.i n] w fun e w'=>e=.returned (.p w.heap.size)∧cE w w'∧jx w' w.heap.size lo (bY n iM):=by
 have h1:decide ((n:Int)<0)=false:=by simp
 have h2:decide (4<(n:Int))=false:=by simp;omega
 obtain⟨w1,hw1,dB,hs1,kP⟩:=dX w [.i n,.V,.n,.F,.F,.V,.n,.F,.F,.V,.n,.F,.F,.V,.n,.F,.F] 195;have hbk:w1.heap[w.heap.size]?=some (.cells #[.i n,.V,.n,.F,.F,.V,.n,.F,.F,.V,.n,.F,.F,.V,.n,.F,.F] 195 (0,0)):=by rw[hw1];exact aO w _
 have hr:=kP w1 (af _ _);have hT:jx w1 w.heap.size lo (bY n iM):=by
  refine⟨by simp;exact hn,by rw[List.length_replicate];exact hr 0 _ rfl,ey hbk 0 17 cM,fun r t ht=>?_,rP hbk rfl⟩;have e1:r<n:=by have:=(aq.1 ht).1;simpa using this
  have e2:t=iM:=by have:=bu ht;exact List.eq_of_mem_replicate this
  subst e2;refine⟨none,0,fun j u hu=>?_,fun k v hk=>by simp[iM] at hk⟩;have hj:j<4:=(aq.1 hu).1;have e3:∀r j:Nat,r<4→j<4→(iD iM none 0)[j]?=([Value.int .i64 n,.V,.n,.F,.F,.V,.n,.F,.F,.V,.n,.F,.F,.V,.n,.F,.F]:List ay)[1+r*4+j]?:=fun r j hr hj=>by
   rcases(show r=0∨r=1∨r=2∨r=3 by omega) with rfl|rfl|rfl|rfl<;>rcases(show j=0∨j=1∨j=2∨j=3 by omega) with rfl|rfl|rfl|rfl<;>rfl
  have:=hr (1+r*4+j) u (by rw[←e3 r j cK hj];exact hu)
  rwa [aK] at this
 have HW:=cD (cC hw1 (cC dB hT));clear hw1 dB hs1 kP hbk hr hT;go_enter func42,ntmps42
 go_wp2_with (rw[←HW.out.1])
 go_ret
 exact⟨rfl,HW.out.2.1,HW.out.2.2⟩
def wrB(x:fW)(dP:Int):Bool:=decide (0≤x.dO)&&decide (x.dO<dP)&&decide (0<x.ep)&&decide (x.cl=0)&&decide (0<x.dF.length)
def clB(x:fW):Bool:=decide (x.dO=-1)&&decide (x.ep=0)&&decide (0<x.cl)&&decide (x.dF.length=0)
def Yv(x:fW)(sites dP:Int):Bool:=decide (x.ew<0)||decide (sites≤x.ew)||decide (x.seq<1)||decide ((x.de.length:Int)≠sites)||decide (x.de.getD x.ew.toNat 0≠x.seq - 1)||(wrB x dP==clB x)
theorem Gb(w:ag)(x:fW)(r:ei)(sites:Nat)(dP:Int)(lo:Nat→Prop)(hst:dK w lo r.sa x.de)(hq:x.seq<18446744073709551616)(hl:x.de.length<1000000):
  aA prog 27 #[eW x r,.i sites,.i dP] w fun e w'=>e=.returned (.i (if Yv x sites dP then 1 else 0))∧cE w w':=by
 obtain⟨w1,hw1,dB,hs1,kP⟩:=dX w (cU x r) 40;have y0:∀w',cE w1 w'→w'.cell? ⟨w.heap.size,0,none⟩=some (.i x.ew):=fun w' h=>kP w' h 0 _ rfl
 have y1:∀w',cE w1 w'→w'.cell? ⟨w.heap.size,1,none⟩=some (.v x.seq):=fun w' h=>kP w' h 1 _ rfl
 have y2:∀w',cE w1 w'→w'.cell? ⟨w.heap.size,2,none⟩=some (.i x.dO):=fun w' h=>kP w' h 2 _ rfl
 have y3:∀w',cE w1 w'→w'.cell? ⟨w.heap.size,3,none⟩=some (.v x.ep):=fun w' h=>kP w' h 3 _ rfl
 have y4:∀w',cE w1 w'→w'.cell? ⟨w.heap.size,4,none⟩=some (.slice r.sa x.de.length r.sc):=fun w' h=>kP w' h 4 _ rfl
 have y5:∀w',cE w1 w'→w'.cell? ⟨w.heap.size,5,none⟩=some (.slice r.ea x.dF.length r.ec):=fun w' h=>kP w' h 5 _ rfl
 have y6:∀w',cE w1 w'→w'.cell? ⟨w.heap.size,6,none⟩=some (.u x.cl):=fun w' h=>kP w' h 6 _ rfl
 have HY:=cD (cC y0 (cC y1 (cC y2 (cC y3 (cC y4 (cC y5 y6))))));have HW:=cD (cC hw1 dB);have HS:=cD (cC (hst.below dB) (cC hq hl));clear hst hq hl kP y0 y1 y4 hw1 dB hs1;obtain⟨E,hE⟩:∃E:Int,E=(if Yv x sites dP then 1 else 0):=⟨_,rfl⟩;rw[←hE];have HE:=cD hE;clear hE;unfold eW cU;unfold cU at HW;have z2:=y2 w1 (af _ _);have z3:=y3 w1 (af _ _);have z5:=y5 w1 (af _ _);have z6:=y6 w1 (af _ _);clear y2 y3 y5 y6;obtain⟨c1,t1⟩:∃b,decide (0≤x.dO)=b:=⟨_,rfl⟩;obtain⟨c2,t2⟩:∃b,decide (x.dO<dP)=b:=⟨_,rfl⟩;obtain⟨c3,t3⟩:∃b,decide (0<x.ep)=b:=⟨_,rfl⟩;obtain⟨c4,t4⟩:∃b,decide (x.cl=0)=b:=⟨_,rfl⟩;obtain⟨c5,t5⟩:∃b,decide (0<x.dF.length)=b:=⟨_,rfl⟩;have t4':((x.cl:Int)==0)=c4:=by rw[←t4];by_cases h:x.cl=0<;>simp[h]
 obtain⟨d1,s1⟩:∃b,decide (x.dO=-1)=b:=⟨_,rfl⟩;obtain⟨d2,s2⟩:∃b,decide (x.ep=0)=b:=⟨_,rfl⟩;obtain⟨d3,s3⟩:∃b,decide (0<x.cl)=b:=⟨_,rfl⟩;obtain⟨d4,s4⟩:∃b,decide (x.dF.length=0)=b:=⟨_,rfl⟩;have s1':(x.dO==-1)=d1:=by rw[←s1];by_cases h:x.dO=-1<;>simp[h]
 have s2':((x.ep:Int)==0)=d2:=by rw[←s2];by_cases h:x.ep=0<;>simp[h]
 have s4':((x.dF.length:Int)==0)=d4:=by rw[←s4];by_cases h:x.dF.length=0<;>simp[h]
 have HC:=cD (show wrB x dP=(c1&&c2&&c3&&c4&&c5) by unfold wrB;rw[t1,t2,t3,t4,t5]);have HD:=cD (show clB x=(d1&&d2&&d3&&d4) by unfold clB;rw[s1,s2,s3,s4]);have za:=cD (cC s1 (cC s2 (cC s3 (cC s4 (cC s1' (cC s2' s4'))))));clear s1 s2 s3 s4 s1' s2' s4';obtain⟨n5,hn5⟩:∃n,n=x.dF.length:=⟨_,rfl⟩;go_enter func27,ntmps27
 go_upto_region 1 with (rw[←HW.out.1])
 go_cut [7] (fun v wc=>v=.bool (wrB x dP)∧w1=wc)
 case first=>
  skip
  cases c1
  case false=>
   go_wp2_with fail
   go_meet
   case rel=>exact⟨by rw[HC.out];first|rfl|simp,rfl⟩
  case true=>
  cases c2
  case false=>
   go_wp2_with fail
   go_meet
   case rel=>exact⟨by rw[HC.out];first|rfl|simp,rfl⟩
  case true=>
  cases c3
  case false=>
   go_wp2_with fail
   go_meet
   case rel=>exact⟨by rw[HC.out];first|rfl|simp,rfl⟩
  case true=>
  cases c4
  all_goals
   go_wp2_with fail
   go_meet
   case rel=>exact⟨by rw[HC.out];first|rfl|simp,rfl⟩
 case rest=>
 obtain⟨rfl,rfl⟩:=hcut;clear t1 t2 t3 t4 t5 t4';have hs:=za.out;obtain⟨s1,s2,s3,s4,s1',s2',s4'⟩:=hs;go_upto_region 2 with fail
 go_cut [8] (fun v wc=>v=.bool (clB x)∧w1=wc)
 case first=>
  skip
  cases d1
  case false=>
   go_wp2_with fail
   go_meet
   case rel=>exact⟨by rw[HD.out];first|rfl|simp,rfl⟩
  case true=>
  cases d2
  case false=>
   go_wp2_with fail
   go_meet
   case rel=>exact⟨by rw[HD.out];first|rfl|simp,rfl⟩
  case true=>
  cases d3
  all_goals
   go_wp2_with fail
   go_meet
   case rel=>exact⟨by rw[HD.out];first|rfl|simp,rfl⟩
 case rest=>
 obtain⟨rfl,rfl⟩:=hcut;clear s1 s2 s3 s4 s1' s2' s4' z2 z3 z5 z6;obtain⟨wr,hwr⟩:∃b,b=wrB x dP:=⟨_,rfl⟩;obtain⟨cl,hcl⟩:∃b,b=clB x:=⟨_,rfl⟩;obtain⟨b1,t1⟩:∃b,decide (x.ew<0)=b:=⟨_,rfl⟩;obtain⟨b2,t2⟩:∃b,decide ((sites:Int)≤x.ew)=b:=⟨_,rfl⟩;obtain⟨b3,t3⟩:∃b,decide (x.seq<1)=b:=⟨_,rfl⟩;obtain⟨b4,t4⟩:∃b,decide ((x.de.length:Int)≠sites)=b:=⟨_,rfl⟩;obtain⟨b5,t5⟩:∃b,decide (x.de.getD x.ew.toNat 0≠x.seq - 1)=b:=⟨_,rfl⟩;have t3':decide (x.seq=0)=b3:=by rw[←t3];by_cases h:x.seq=0<;>simp[h]<;>omega
 have t4':((x.de.length:Int) != sites)=b4:=by rw[←t4];by_cases h:(x.de.length:Int)=sites<;>simp[h]
 have HB:=cD (show Yv x sites dP=(b1||b2||b3||b4||b5||(wr==cl)) by unfold Yv;rw[t1,t2,t3,t4,t5,hwr,hcl]);rw[←hwr,←hcl];have HWC:=cD (cC hwr hcl);have HT:=cD (cC t1 (cC t2 (cC t3 (cC t4 t5))));clear hwr hcl t5 t4;obtain⟨y0,y1,_,_,y4,_,_⟩:=HY.out;have z0:=y0 w1 (af _ _);have z1:=y1 w1 (af _ _);have z4:=y4 w1 (af _ _);clear y0 y1 y4;go_upto_region 3 with fail
 go_cut [90] (fun v wc=>v=.bool (Yv x sites dP)∧cE w1 wc)
 case first=>
  skip
  cases b1
  case true=>
   go_quiet (fail)
   go_wp2
   go_meet
   case rel=>exact⟨by rw[HB.out];first|rfl|simp,below_drewN (af _ _) _⟩
  case false=>
  cases b2
  case true=>
   go_quiet (fail)
   go_wp2
   go_meet
   case rel=>exact⟨by rw[HB.out];first|rfl|simp,below_drewN (af _ _) _⟩
  case false=>
  cases b3
  case true=>
   have hz:x.seq=0:=by have:=of_decide_eq_true t3;omega
   rw[hz] at z1;clear t3 t3';go_quiet (fail)
   go_wp2
   go_meet
   case rel=>exact⟨by rw[HB.out];first|rfl|simp,below_drewN (af _ _) _⟩
  case false=>
  obtain⟨s,Kv⟩:∃s,x.seq=s+1:=⟨x.seq - 1,by have:=of_decide_eq_false t3;omega⟩;rw[Kv] at z1;have hs1:decide ((s:Int)+1<1)=false:=by simp;omega
  have hs2:decide (s+1<1)=false:=by simp
  have HSQ:=cD Kv;clear t3 t3' Kv;cases b4
  case true=>
   go_quiet (fail)
   go_wp2
   go_meet
   case rel=>exact⟨by rw[HB.out];first|rfl|simp,below_drewN (af _ _) _⟩
  case false=>
  obtain⟨h1,h2,h3,h4,t5⟩:=HT.out;have hn:(x.de.length:Int)=sites:=by simpa using of_decide_eq_false h4
  have AX:¬x.ew<0:=of_decide_eq_false h1;have hg2:¬(sites:Int)≤x.ew:=of_decide_eq_false h2;have hg3:¬x.seq<1:=of_decide_eq_false h3;obtain⟨k,hk⟩:∃k:Nat,x.ew=k:=⟨x.ew.toNat,by omega⟩;have hkl:k<x.de.length:=by omega
  obtain⟨V,hV⟩:=cF (x.de.getD x.ew.toNat 0);have hVk:x.de[k]?=some V:=by rw[hV,hk];simp[bM,aa hkl]
  obtain⟨sb,so,hsa,_,FR,hsc⟩:=HS.out.1 k V hVk;rw[←hV] at t5;have hsub:IntKind.u64.wrap (s:Int)=(s:Int):=by rw[aap];have:=HS.out.2.1;have:=HSQ.out;omega
  rw[HSQ.out,Nat.add_sub_cancel] at t5;have t5':((V:Int) != (s:Int))=b5:=by rw[←t5];by_cases h:V=s<;>simp[h];omega
  have Uf:=cD t5;have t2':decide (sites≤k)=false:=by simp;omega
  have g1:(0:Int)≤k:=by omega
  have g2:(k:Int)<x.de.length:=by omega
  clear h1 h2 h3 h4 hn AX hg2 hg3 t5 hkl hVk FR hV;rw[hk] at z0 t1 t2;rw[hsa] at z4;clear HT Uf;cases b5
  all_goals
   go_quiet (fail)
   go_wp2
   go_meet
   case rel=>exact⟨by rw[HB.out];first|rfl|simp,below_drewN (af _ _) _⟩
 case rest=>
 obtain⟨rfl,hbc⟩:=hcut;have uA:=cD hbc;clear hbc z0 z1 z4 t1 t2 t3 t4';generalize Yv x sites dP=bad at HE⊢;cases bad
 all_goals
  go_wp2
  go_ret
  exact⟨by rw[HE.out];rfl,HW.out.2.trans (uA.out.mono HW.out.2.size)⟩
def Vr(x:fW)(V:List Nat):Bool:=decide (0≤x.ew)&&decide (x.ew<V.length)&&decide (0<x.seq)&&decide (x.seq - 1=V.getD x.ew.toNat 0)&&kI x.de V
theorem Ga(w:ag)(x:fW)(r:ei)(va:Option bG)(vc:Nat)(V:List Nat)(lo l2:Nat→Prop)(hst:dK w lo r.sa x.de)(hv:dK w l2 va V)(hq:x.seq<18446744073709551616)(hl:x.de.length≤1000)(hl2:V.length≤1000):
  aA prog 248 #[eW x r,.slice va V.length vc] w fun e w'=>e=.returned (.bool (Vr x V))∧cE w w':=by
 obtain⟨w1,hw1,dB,hs1,kP⟩:=dX w (cU x r) 40;have y0:∀w',cE w1 w'→w'.cell? ⟨w.heap.size,0,none⟩=some (.i x.ew):=fun w' h=>kP w' h 0 _ rfl
 have y1:∀w',cE w1 w'→w'.cell? ⟨w.heap.size,1,none⟩=some (.v x.seq):=fun w' h=>kP w' h 1 _ rfl
 have y4:∀w',cE w1 w'→w'.cell? ⟨w.heap.size,4,none⟩=some (.slice r.sa x.de.length r.sc):=fun w' h=>kP w' h 4 _ rfl
 have HW:=cD (cC hw1 dB);have HS:=cD (cC (hst.below dB) (cC (hv.below dB) (cC hq (cC hl hl2))));clear hst hv hq hl hl2 kP hw1 dB hs1;unfold eW cU;unfold cU at HW;obtain⟨B,hB⟩:=cF (Vr x V);rw[←hB];obtain⟨b1,t1⟩:∃b,decide (0≤x.ew)=b:=⟨_,rfl⟩;obtain⟨b2,t2⟩:∃b,decide (x.ew<(V.length:Int))=b:=⟨_,rfl⟩;obtain⟨b3,t3⟩:∃b,decide (0<x.seq)=b:=⟨_,rfl⟩;obtain⟨b4,t4⟩:∃b,decide (x.seq - 1=V.getD x.ew.toNat 0)=b:=⟨_,rfl⟩;obtain⟨b5,t5⟩:∃b,kI x.de V=b:=⟨_,rfl⟩;have HB:=cD (show B=(b1&&b2&&b3&&b4&&b5) by rw[hB];unfold Vr;rw[t1,t2,t3,t4,t5]);have HT:=cD (cC t4 t5);clear t4 t5 hB;have z0:=y0 w1 (af _ _);have z1:=y1 w1 (af _ _);have HY:=cD (cC y0 (cC y1 y4));clear y0 y1 y4;obtain⟨nv,tZ⟩:∃n,n=V.length:=⟨_,rfl⟩;rw[←tZ] at t2⊢;have HNV:=cD tZ;clear tZ;go_enter func248,ntmps248
 go_upto_region 1 with (rw[←HW.out.1])
 go_cut [4] (fun v wc=>v=.bool B∧cE w1 wc)
 case first=>
  skip
  cases b1
  case false=>
   go_quiet (fail)
   go_wp2
   go_meet
   case rel=>exact⟨by rw[HB.out];first|rfl|simp,below_drewN (af _ _) _⟩
  case true=>
  cases b2
  case false=>
   go_quiet (fail)
   go_wp2
   go_meet
   case rel=>exact⟨by rw[HB.out];first|rfl|simp,below_drewN (af _ _) _⟩
  case true=>
  cases b3
  case false=>
   have hz:x.seq=0:=by have:=of_decide_eq_false t3;omega
   rw[hz] at z1;clear t3;go_quiet (fail)
   go_wp2
   go_meet
   case rel=>exact⟨by rw[HB.out];first|rfl|simp,below_drewN (af _ _) _⟩
  case true=>
  obtain⟨s,Kv⟩:∃s,x.seq=s+1:=⟨x.seq - 1,by have:=of_decide_eq_true t3;omega⟩;have AX:0≤x.ew:=of_decide_eq_true t1;have hg2:x.ew<(nv:Int):=of_decide_eq_true t2;obtain⟨k,hk⟩:∃k:Nat,x.ew=k:=⟨x.ew.toNat,by omega⟩;have hkl:k<nv:=by omega
  obtain⟨X,hX⟩:=cF (V.getD x.ew.toNat 0);have hVk:V[k]?=some X:=by rw[hX,hk];simp[bM,aa (show k<V.length by rw[←HNV.out];exact hkl)]
  obtain⟨sb,so,hsa,_,FR,hsc⟩:=HS.out.2.1 k X hVk;subst hsa;have hsub:IntKind.u64.wrap (s:Int)=(s:Int):=by rw[aap];have:=HS.out.2.2.1;omega
  have hb4:((s:Int)==(X:Int))=b4:=by rw[←HT.out.1,←hX,Kv,Nat.add_sub_cancel];by_cases h:s=X<;>simp[h]<;>omega
  have g1:(0:Int)≤k:=by omega
  have g2:(k:Int)<nv:=by omega
  have g3:decide (k<nv)=true:=decide_eq_true cK;have g4:decide (0<(s:Int)+1)=true:=decide_eq_true cK;have HSQ:=cD Kv;rw[Kv] at z1;rw[hk] at z0 t1 t2;have HK:=cD (cC FR hk);clear t3 Kv AX hg2 hkl hX hVk FR hk;cases b4
  case false=>
   go_quiet (fail)
   go_wp2
   go_meet
   case rel=>exact⟨by rw[HB.out];first|rfl|simp,below_drewN (af _ _) _⟩
  case true=>
  obtain⟨y0,y1,y4⟩:=HY.out;have yi:∀w',cE w1 w'→w'.cell? ⟨sb,so+k,none⟩=some (.v (X:Int)):=fun w' h=>(h.cell (p:=⟨sb,so+k,none⟩) HK.out.1).trans hsc
  rw[HSQ.out] at y1;rw[HK.out.2] at y0;obtain⟨nl,hnl⟩:∃n,n=x.de.length:=⟨_,rfl⟩;have HL:Hid (∀W,cE w1 W→aA prog 17 #[.slice r.sa nl r.sc,.slice (some ⟨sb,so,none⟩) nv vc] W fun e w'=>e=.returned (.bool b5)∧cE W w'):=cD (fun W hW=>by
   rw[hnl,HNV.out,←HT.out.2];exact MB W _ _ _ _ x.de V lo l2 HS.out.2.2.2.1 HS.out.2.2.2.2 (HS.out.1.below hW) (HS.out.2.1.below hW))
  rw[←hnl] at y4;clear z0 z1 hnl;refine rB fun wd hS=>?_
  refine tI 0 rfl hS ?_;refine tJ 1 rfl hS y0 ?_;refine tI 2 rfl hS ?_;refine tI 3 rfl hS ?_;simp only[cR];refine tI 4 rfl hS ?_;refine tJ 5 rfl hS y0 ?_;refine tI 6 rfl hS ?_;refine tI 7 rfl hS ?_;simp only[cR];refine tI 8 rfl hS ?_;refine tI 9 rfl hS ?_;refine tI 10 rfl hS ?_;refine tI 11 rfl hS ?_;simp only[cR];refine tJ 12 rfl hS y1 ?_;refine tI 13 rfl hS ?_;refine tI 14 rfl hS ?_;refine tI 15 rfl hS ?_;simp only[cR];refine tI 16 rfl hS ?_;refine tJ 17 rfl hS y1 ?_;refine tI 18 rfl hS ?_;refine tI 19 rfl hS ?_;simp only[cR];refine tI 20 rfl hS ?_;refine tJ 21 rfl hS y0 ?_;refine tI 22 rfl hS ?_;refine tJ 23 rfl hS yi ?_;simp only[cR];refine tI 24 rfl hS ?_;refine tI 25 rfl hS ?_;refine tI 26 rfl hS ?_;refine tI 27 rfl hS ?_;simp only[cR];refine tJ 28 rfl hS y4 ?_;refine tI 29 rfl hS ?_;simp only[cR];refine cI 30 rfl ?_;refine(HL.out wd hS).mono ?_;rintro e w3 ⟨rfl,eO⟩;have ek:cE w1 w3:=hS.trans (eO.mono hS.size);refine⟨ek,?_⟩;simp only[cR];refine tI 31 rfl ek ?_;refine tI 32 rfl ek ?_;simp only[cR];refine aL cJ ?_ _;go_wp2
  go_meet
  case rel=>exact⟨by rw[HB.out];simp,ek⟩
 case rest=>
 obtain⟨rfl,hbc⟩:=hcut;have uA:=cD hbc;clear hbc z0 z1 t1 t2 t3;go_wp2
 go_ret
 exact⟨rfl,HW.out.2.trans (uA.out.mono HW.out.2.size)⟩
theorem Tk(w:ag)(a:Option bG)(n c:Nat):(binOp .eql 38 (.slice a n c) (.n)).run prog w=.ok (.bool a.isNone) w:=Lib.run_eql_slice_nil w _ _ a n c 0 0 underlying38
theorem dr.kG(r:dr):r.cells.length=11:=rfl
theorem tC(L:List dr):(L.flatMap dr.cells).length=L.length*11:=by
 induction L with
 |nil=>rfl
 |cons a L ih=>rw[bH,aE,ih,dr.kG,aN];omega
theorem WN{L:List dr}{j:Nat}{u:ay}(h:(L.flatMap dr.cells)[j]?=some u):∃r,L[j / 11]?=some r∧r.cells[j % 11]?=some u:=by
 have hj:=(aq.1 h).1;rw[tC] at hj;have hk:j / 11<L.length:=by omega
 have hr:=aa hk;have hi:j % 11<(L[j / 11]).cells.length:=by rw[dr.kG];omega
 have hu:=aa hi;have:=vW L (j / 11) _ hr (j % 11) _ hu;rw[show j / 11*11+j % 11=j by omega,h] at this;exact⟨_,hr,hu.trans this.symm⟩
theorem cells_one(r:dr):∀u∈r.cells,u.oneCell'=true:=by
 obtain⟨p,g,ra,rn,rc,⟨q1,q2,q3,q4,q5,q6,q7,q8⟩⟩:=r;intro u hu;simp[dr.cells,Raw.cells,eU.cells] at hu;rcases hu with rfl|rfl|rfl|rfl|rfl|rfl|rfl|rfl|rfl|rfl|rfl<;>rfl
def Xw(w:ag)(L:List dr)(e:Ending)(w':ag):Prop:=∃v,e=.returned v∧w'.ownsRow w.heap.size 93 11 v L.length (L.flatMap dr.cells)∧cE w w'
theorem Lm(w:ag)(ao:Option bG)(c:Nat)(L:List dr)(hl:L.length≤100000)(h:gH w w.heap.size ao L):
  aA prog 201 #[.slice ao L.length c] w (Xw w L):=by
 cases ao with
 |none=>
  have hV:L=[]:=by
   cases L with
   |nil=>rfl
   |cons v r=>
   obtain⟨b,off,e,_⟩:=h 0 v rfl;cases e
  subst hV;have q:=fun w:ag=>Tk w none 0 c
  clear h;go_enter func201,ntmps201
  go_wp2
  go_ret
  exact⟨_,rfl,aaD w _ 93 11,af _ _⟩
 |some ad=>
 have q:=fun w:ag=>Tk w (some ad) L.length c
 have hcells:∀j u,(L.flatMap dr.cells)[j]?=some u→(w.alloc (.cells #[] 93)).cell? (ad.add j)=some u:=fun j u hu=>by
  obtain⟨r,hr,hu2⟩:=WN hu;obtain⟨b,off,e,h3,h4⟩:=h _ _ hr;cases e;have:=h4 _ _ hu2;rw[show off+j / 11*11+j % 11=off+j by omega] at this;rw[Addr.add_mid];exact((cT (af _ w) _).cell (p:=⟨b,off+j,none⟩) h3).trans this
 have zb:=cD hcells;have afw:Hid (∀u∈L.flatMap dr.cells,u.oneCell'=true):=cD (fun u hu=>by
  obtain⟨r,_,h2⟩:=List.mem_flatMap.1 hu;exact cells_one r u h2)
 have Np:=cD (World.ownsRow_made (base:=w.heap.size) (e:=93) (size:=11) w #[] 0 cK cL rfl);have abz:=tC L;obtain⟨F,hF⟩:=cF (L.flatMap dr.cells);obtain⟨N,hN⟩:=cF L.length;rw[←hF,←hN] at abz;rw[←hF] at zb afw;have FM:=cD abz;obtain⟨i0,hi,hz0,hz1,hz2⟩:=info_parts tY;have HI:=cD (cC hi (cC hz0 (cC hz1 hz2)));have HN:=cD (cC hN hF);rw[←hN] at hl q⊢;clear h hcells abz hN hF hi hz0 hz1 hz2;go_enter func201,ntmps201
 go_wp2_with (at_builtin;refine eD rfl (.tmp 5) (.tmp 6) 38 rfl w.heap.size 93 i0 (.agg #[.z,.F,.n,.U,.U,.U,.I,.U,.V,.V,.V]) 11 104 underlying38 HI.out.1 HI.out.2.1 HI.out.2.2.1 HI.out.2.2.2 rfl cL _ _ _ rfl Np.out ad N c F rfl FM.out zb.out afw.out (by unfold maxLen;omega) cK cM ?_;intro v3 w3 hown hgrow hwhere)
 have BY:cE w w3:=(cT (af _ w) _).grown hgrow cM (fun g hg=>(Np.out.lt g hg).1);rw[aK] at hown;have Uh:=cD hown;have mQ:=cD BY;clear hown hgrow hwhere BY;go_wp2
 go_ret
 refine⟨v3,rfl,?_,mQ.out⟩;have h3:=Uh.out;have h4:=HN.out;rw[h4.1,h4.2] at h3;simpa using h3
def dr.iN(r:dr)(a:Option bG)(c:Nat):dr:={r with node:={r.node with a:=a,c:=c}}
theorem Iq:∀(L:List dr) (k:Nat) (r:dr),L[k]?=some r→∀(a:Option bG) (c:Nat),(L.flatMap dr.cells).set (k*11+2) (.slice a r.node.n c)=(L.set k (r.iN a c)).flatMap dr.cells
 |[],k,r,h,a,c=>by simp at h
 |x::L,0,r,h,a,c=>by
  simp at h;subst h;rfl
 |x::L,k+1,r,h,a,c=>by
  have h':L[k]?=some r:=by simpa using h
  rw[List.set_cons_succ,bH,bH,←Iq L k r h' a c,List.set_append_right _ _ (by rw[dr.kG];omega),dr.kG,show(k+1)*11+2 - 11=k*11+2 by omega]
structure IX(w w2 wr:ag)(x:fW)(L:List dr)(ga:Option bG)(gc:Nat)(q:ei)(j:Nat):Prop where
 lk:∃Lk:List dr,Lk.length=L.length∧wr.ownsRow w2.heap.size 93 11 (.slice ga L.length gc) L.length (Lk.flatMap dr.cells)∧
  (∀(i:Nat) r e,i<j→Lk[i]?=some r→x.dF[i]?=some e→kU wr (fun b=>w2.heap.size≤b∧(aT ga L.length gc).ownBlock≠some b) r e)∧(∀i,j≤i→Lk[i]?=L[i]?)
 box:wr.heap[w.heap.size]?=some (.cells #[.i x.ew,.v (x.seq:Int),.i x.dO,.v (x.ep:Int),.slice q.sa x.de.length q.sc,.slice ga L.length gc,.u (x.cl:Int)] 40 (0,0))
 th:wr.there (w.heap.size+1) 0 7
 st:dK wr (fun b=>w2.heap.size≤b∧(aT ga L.length gc).ownBlock≠some b) q.sa x.de
 bl:cE w wr
 size:w.heap.size+2≤w2.heap.size∧w2.heap.size≤wr.heap.size
theorem Jw{w w':ag}{B o n:Nat}{S:Nat→Prop}(h:w.there B o n)(hk:cQ S w w')(hB:B<w.heap.size)(hS:¬S B):w'.there B o n:=fun j hj=>by
 obtain⟨h1,h2⟩:=h j hj;exact⟨by rw[hk.cell (p:=⟨B,o+j,none⟩) hB hS];exact h1,(hk.frozen (p:=⟨B,o+j,none⟩) hB hS).trans h2⟩
theorem IX.next{w w2 wr:ag}{x:fW}{L Lk:List dr}{g gc:Nat}{q:ei}{j:Nat}(h:IX w w2 wr x L (some ⟨g,0,none⟩) gc q j)(hlk:Lk.length=L.length)
  (hlo:∀(i:Nat) r e,i<j→Lk[i]?=some r→x.dF[i]?=some e→kU wr (fun b=>w2.heap.size≤b∧(aT (some ⟨g,0,none⟩) L.length gc).ownBlock≠some b) r e) (hhi:∀i,j≤i→Lk[i]?=L[i]?)
  {rj:dr} {ej:gm} (hj:L[j]?=some rj) (he:x.dF[j]?=some ej) (AX:w2.heap.size≤g) (hg2:g<wr.heap.size) (wc:ag) (hdc:cE wr wc) (a':Option bG) (c':Nat) (B:Nat) (hB:wr.heap.size≤B)
  (b3:eP wc (fU B) wc.heap.size a' ej.node.data) (n3:a'=none→ej.node.data=[]∧c'=0) (hp:rj.cW=ej.cW) (X7:rj.gone=ej.gone) (hn:rj.node.num=ej.node.num) (hl:rj.node.n=ej.node.data.length)
  (wf:ag) (hk:cQ (·=g) wc wf) (hst:wf.ownsRow w2.heap.size 93 11 (.slice (some ⟨g,0,none⟩) L.length gc) L.length ((Lk.set j (rj.iN a' c')).flatMap dr.cells)):
  IX w w2 wf x L (some ⟨g,0,none⟩) gc q (j+1):=by
 have hsz:=h.size;have hcs:=hdc.size;have UL:∀b,(w2.heap.size≤b∧(aT (some ⟨g,0,none⟩) L.length gc).ownBlock≠some b)→¬b=g:=fun b hb e=>hb.2 (by rw[e];rfl)
 have hjl:j<Lk.length:=by rw[hlk];exact(aq.1 hj).1
 have aax:cE w wf:=(h.bl.trans (hdc.mono h.bl.size)).trans (hk.below cK (fun b e=>by have e:b=g:=e;omega));refine⟨⟨Lk.set j (rj.iN a' c'),by rw[bT];exact hlk,hst,fun i r e hi hr hee=>?_,fun i hi=>?_⟩,?_,?_,?_,aax,by omega,by have:=hk.size;omega⟩
 ·by_cases hij:i=j
  ·subst hij
   rw[aaa hjl] at hr;cases hr;rw[he] at hee;cases hee;exact⟨hp,X7,hn,hl,((b3.kept hk (aC _) (fun b hb _ _ e=>by have hb:B≤b:=hb;have e:b=g:=e;omega)).mono (fun b hb=>by have hb:B≤b:=hb;exact⟨by omega,fun e=>by have e:some g=some b:=e;cases e;omega⟩) hk.size),n3⟩
  rw[bz (fun e=>hij e.symm)] at hr;obtain⟨z1,z2,z3⟩:=(hlo i r e cK hr hee).below hdc;exact⟨z1,z2,z3.num,z3.len,(z3.data.kept hk (aC _) (fun b hb _ _=>UL b hb)).mono (fun _ h=>h) hk.size,z3.nil⟩
 ·rw[bz cK]
  exact hhi i cK
 ·have hlt:w.heap.size<wr.heap.size:=by omega
  exact(hk.block _ cK (fun e=>by have e:w.heap.size=g:=e;omega)).trans ((hdc.block _ hlt).trans h.box)
 ·have hlt:w.heap.size+1<wr.heap.size:=by omega
  exact Jw (qO h.th hdc hlt) hk cK (fun e=>by have e:w.heap.size+1=g:=e;omega)
 exact(h.st.below hdc).kept hk (fun b hb _=>UL b hb)
section
variable{P:Program}{l:List Oper}{Q:Exit→Act→World→Prop}{md:Region.Mode}{S:World→Prop}
theorem uI(i:Nat){oi:Oper}{r:List Oper}{fuel:Nat}{listed:Array Bool}{a:Act}{w:ag}(hi:l.drop i=oi::r)(w':ag)(hS:S w')
  (h:wpAnyH P md l.toArray Q S fuel (listed.setIfInBounds i true) (a.put oi.dst aI) w')
  (hr:Region.ready md l.toArray listed=[i]:=by kernel_rfl) (hw:bX oi (yielded l.toArray a.tmps)=true:=by rfl)
  (hx:(execOp a.eval oi).run P w=.ok .skip w':=by go_simp<;>first|rfl|exact⟨rfl,rfl⟩):wpAnyH P md l.toArray Q S (fuel+1) listed a w:=
 Aw i hi hr hw (by unfold Oper.wp;rw[hx];exact⟨hS,h⟩)
end
theorem NJ(w:ag)(x:fW)(r:ei)(L:List dr)(lo:Nat→Prop)(h:ez w lo r L x)(hl1:x.de.length≤1000)(hl2:x.dF.length≤1000)(hd:∀e∈x.dF,e.node.data.length≤1000000):
  aA prog 107 #[eW x r] w fun e w'=>∃r' L',e=.returned (eW x r')∧ez w' (fU w.heap.size) r' L' x∧(∀ad,r'.ea=some ad→ad.block<w'.heap.size)∧cE w w':=by
 have hLl:L.length=x.dF.length:=h.like.1;obtain⟨w2,fH⟩:=cF ((w.alloc (.cells #[.i x.ew,.v (x.seq:Int),.i x.dO,.v (x.ep:Int),.slice r.sa x.de.length r.sc,.slice r.ea x.dF.length r.ec,.u (x.cl:Int)] 40)).alloc (.cells #[.I,.V,.I,.V,.n,.n,.U] 40));have dI:cE w w2:=by rw[fH];exact cT (cT (af _ w) _) _
 have g1:w2.heap[w.heap.size]?=some (.cells #[.i x.ew,.v (x.seq:Int),.i x.dO,.v (x.ep:Int),.slice r.sa x.de.length r.sc,.slice r.ea x.dF.length r.ec,.u (x.cl:Int)] 40 (0,0)):=by rw[fH];exact(heap_alloc_old _ _ cM).trans (aO w _)
 have g2:w2.heap[w.heap.size+1]?=some (.cells #[.I,.V,.I,.V,.n,.n,.U] 40 (0,0)):=by
  have:=aO (w.alloc (.cells #[.i x.ew,.v (x.seq:Int),.i x.dO,.v (x.ep:Int),.slice r.sa x.de.length r.sc,.slice r.ea x.dF.length r.ec,.u (x.cl:Int)] 40)) (.cells #[.I,.V,.I,.V,.n,.n,.U] 40);rw[ah] at this;rw[fH];exact this
 have hs2:w2.heap.size=w.heap.size+2:=by rw[fH];simp
 have HC:=cD (lJ w2 r.sa r.sc lo x.de cK (h.de.below dI));have HW:=cD (cC fH (cC dI (cC g1 (cC g2 hs2))));have HI:=cD (cC h (cC hl1 (cC hl2 (cC hd hLl))));obtain⟨ns,oQ⟩:∃n,n=x.de.length:=⟨_,rfl⟩;obtain⟨ne,hne⟩:∃n,n=x.dF.length:=⟨_,rfl⟩;have HN:=cD (cC oQ hne);have c4:w2.cell? ⟨w.heap.size,4,none⟩=some (.slice r.sa ns r.sc):=by rw[oQ];exact aM _ _ 4 _ 40 (0,0) g1
 rw[←oQ] at HC;clear h hl1 hl2 hd hLl fH dI g1 g2 hs2;unfold eW cU;rw[←oQ,←hne] at HW⊢;clear oQ hne;go_enter func107,ntmps107
 go_wp2_with (rw[←HW.out.1])
 refine HC.out.mono ?_;rintro e w3 FQ;obtain⟨a1,c1,rfl,kX,Ku,eO⟩:=FQ.sl;rw[←HN.out.1] at kX⊢;have k3:w3.heap[w.heap.size]?=some (.cells #[.i x.ew,.v (x.seq:Int),.i x.dO,.v (x.ep:Int),.slice r.sa ns r.sc,.slice r.ea ne r.ec,.u (x.cl:Int)] 40 (0,0)):=(eO.block _ (by have:=HW.out.2.2.2.2;omega)).trans HW.out.2.2.1;have d4:w3.cell? ⟨w.heap.size,4,none⟩=some (.slice r.sa ns r.sc):=aM _ _ 4 _ 40 (0,0) k3;have f4:w3.frozen? ⟨w.heap.size,4,none⟩=false:=by simp[cr,k3]
 obtain⟨w4,lP⟩:=cF (w3.setCell ⟨w.heap.size,4,none⟩ (.slice a1 ns c1));have k4:w4.heap[w.heap.size]?=some (.cells #[.i x.ew,.v (x.seq:Int),.i x.dO,.v (x.ep:Int),.slice a1 ns c1,.slice r.ea ne r.ec,.u (x.cl:Int)] 40 (0,0)):=by
  rw[lP,heap_setCell_same w3 w.heap.size 4 _ 40 _ k3];rfl
 have d5:w4.cell? ⟨w.heap.size,5,none⟩=some (.slice r.ea ne r.ec):=aM _ _ 5 _ 40 (0,0) k4;have X4:cQ (·=w.heap.size) w3 w4:=by rw[lP];exact(cQ.refl (·=w.heap.size) w3).setCell (p:=⟨w.heap.size,4,none⟩) rfl _
 have hb4:cE w w4:=(HW.out.2.1.trans (eO.mono HW.out.2.1.size)).trans (X4.below (by have:=HW.out.2.1.size;have:=eO.size;omega) (fun b e=>by have e:b=w.heap.size:=e;omega));have HE:=cD (Lm w4 r.ea r.ec L (by have:=HI.out.2.2.1;have:=HI.out.2.2.2.2;omega) ((HI.out.1.row.below hb4).mono hb4.size));rw[HI.out.2.2.2.2,←HN.out.2] at HE;have Jk:=cD lP;have H4:=cD (cC k3 (cC k4 (cC eO (cC X4 (cC hb4 Ku)))));clear FQ kX k3 lP k4 X4 hb4 Ku eO c4;go_wp2_with (rw[←Jk.out])
 refine HE.out.mono ?_;rintro e w5 ⟨v,rfl,dV,jz⟩;obtain⟨ga,gc,rfl⟩:=iE dV;have Yk:L.length=ne:=by rw[HI.out.2.2.2.2,HN.out.2]
 have k5:=(jz.block _ (by have:=H4.out.2.2.2.1.size;have:=H4.out.2.2.1.size;have:=HW.out.2.2.2.2;omega)).trans H4.out.2.1;have f5:w5.frozen? ⟨w.heap.size,5,none⟩=false:=by simp[cr,k5]
 have d5':w5.cell? ⟨w.heap.size,5,none⟩=some (.slice r.ea ne r.ec):=aM _ _ 5 _ 40 (0,0) k5;obtain⟨w6,mU⟩:=cF (w5.setCell ⟨w.heap.size,5,none⟩ (.slice ga L.length gc));have k6:w6.heap[w.heap.size]?=some (.cells #[.i x.ew,.v (x.seq:Int),.i x.dO,.v (x.ep:Int),.slice a1 ns c1,.slice ga L.length gc,.u (x.cl:Int)] 40 (0,0)):=by
  rw[mU,heap_setCell_same w5 w.heap.size 5 _ 40 _ k5];rfl
 have Jd:cQ (·=w.heap.size) w5 w6:=by rw[mU];exact(cQ.refl (·=w.heap.size) w5).setCell (p:=⟨w.heap.size,5,none⟩) rfl _
 have adr:w2.heap.size≤w4.heap.size:=by have:=H4.out.2.2.1.size;have:=H4.out.2.2.2.1.size;omega
 have X7:∀g,(aT ga L.length gc).ownBlock=some g→w4.heap.size≤g∧g<w5.heap.size:=fun g hg=>dV.lt g hg
 have hO:IX w w2 w6 x L ga gc ⟨a1,c1,none,0⟩ 0:=by
  have ao5:cE w4 w5:=jz;refine⟨⟨L,rfl,(fA dV Jd (fun g hg e=>by have e:g=w.heap.size:=e;have:=(X7 g hg).1;have:=HW.out.2.2.2.2;omega)).mono adr,fun i r e hi=>by omega,fun i _=>rfl⟩,by rw[←HN.out.1];exact k6,?_,?_,?_,by have:=HW.out.2.2.2.2;omega,by have:=jz.size;have:=Jd.size;omega⟩
  ·have ah8:=HW.out.2.2.2.2
   have h0:=ey HW.out.2.2.2.1 0 7 cM;have h3:=qO h0 H4.out.2.2.1 (by have:=HW.out.2.2.2.2;omega);intro j hj;obtain⟨e1,e2⟩:=h3 j hj;have hlt3:w.heap.size+1<w3.heap.size:=by have:=H4.out.2.2.1.size;have:=HW.out.2.2.2.2;omega
   have q1:=H4.out.2.2.2.1.cell (p:=⟨w.heap.size+1,0+j,none⟩) hlt3 (by show¬(w.heap.size+1=w.heap.size);omega);have q2:=jz.cell (p:=⟨w.heap.size+1,0+j,none⟩) (by show w.heap.size+1<_;omega);have q3:=Jd.cell (p:=⟨w.heap.size+1,0+j,none⟩) (by show w.heap.size+1<_;have:=jz.size;omega) (by show¬(w.heap.size+1=w.heap.size);omega);have r1:=H4.out.2.2.2.1.frozen (p:=⟨w.heap.size+1,0+j,none⟩) hlt3 (by show¬(w.heap.size+1=w.heap.size);omega);have r2:=(dA (S:=fun _=>False) jz).frozen (p:=⟨w.heap.size+1,0+j,none⟩) (by show w.heap.size+1<_;omega) (fun e=>e);have r3:=Jd.frozen (p:=⟨w.heap.size+1,0+j,none⟩) (by show w.heap.size+1<_;have:=jz.size;omega) (by show¬(w.heap.size+1=w.heap.size);omega);exact⟨by rw[q3,q2,q1];exact e1,by rw[r3,r2,r1];exact e2⟩
  ·have s3:=H4.out.2.2.2.2.2
   have s4:=s3.kept H4.out.2.2.2.1 (fun b hb _ e=>by have e:b=w.heap.size:=e;have hb:w2.heap.size≤b:=hb;have:=HW.out.2.2.2.2;omega);intro k v hk;obtain⟨b,off,z1,z2,z3,z4⟩:=s4 k v hk;have z2:w2.heap.size≤b:=z2;have oL:b≠w.heap.size:=by have:=HW.out.2.2.2.2;omega
   exact⟨b,off,z1,⟨z2,fun e=>by have:=(X7 b e).1;omega⟩,by have:=jz.size;have:=Jd.size;omega,(Jd.cell (p:=⟨b,off+k,none⟩) (by show b<_;have:=jz.size;omega) oL).trans ((jz.cell (p:=⟨b,off+k,none⟩) z3).trans z4)⟩
  exact(H4.out.2.2.2.2.1.trans (jz.mono H4.out.2.2.2.2.1.size)).trans (Jd.below (by have:=jz.size;have:=HW.out.2.2.2.2;omega) (fun b e=>by have e:b=w.heap.size:=e;omega))
 have d6:w6.cell? ⟨w.heap.size,5,none⟩=some (.slice ga ne gc):=by rw[←Yk];exact aM _ _ 5 _ 40 (0,0) k6
 rw[Yk] at mU;have Ef:=cD mU;have HO:=cD hO;have HLN:=cD Yk;rw[Yk];have hne:ne≤1000:=by rw[HN.out.2];exact HI.out.2.2.1
 clear hO mU Yk k5 k6 Jd jz dV X7 adr f4 d4 d5;go_wp2_with (rw[←Ef.out])
 go_loopw [15] (fun kv wr=>∃j:Nat,j≤ne∧kv=.i j∧Hid (IX w w2 wr x L ga gc ⟨a1,c1,none,0⟩ j)) (fun kv _=>ne - (intOf kv).toNat)
 case atStart=>exact⟨0,by omega,rfl,HO⟩
 obtain⟨j,hj,rfl,HS⟩:=hrel;by_cases hlt:j<ne
 ·have hLj:j<L.length:=by rw[HLN.out];exact hlt
  obtain⟨Lk,Pg,how,hlo,hhi⟩:=HS.out.lk;obtain⟨rj,hr⟩:∃r,L[j]?=some r:=⟨_,aa hLj⟩;obtain⟨ej,he⟩:∃e,x.dF[j]?=some e:=⟨_,aa (by rw[←HN.out.2];exact hlt)⟩;have MO:Lk[j]?=some rj:=(hhi j (aC _)).trans hr;have hrd:=HI.out.1.like.2 j _ _ hr he;obtain⟨g,rfl⟩:∃g,ga=some ⟨g,0,none⟩:=by
   rcases how.2 with ⟨h1,h0⟩|⟨g,cap,cur,h1,_⟩
   ·omega
   cases h1;exact⟨g,rfl⟩
  have SG:=how.lt g rfl;have nJ:=HS.out.box;have gQ:=HS.out.bl;have hsz:=HS.out.size;have aat:w.heap.size<wr.heap.size:=by omega
  have y5:∀w',cQ (·=g) wr w'→w'.cell? ⟨w.heap.size,5,none⟩=some (.slice (some ⟨g,0,none⟩) ne gc):=fun w' hk=>by
   rw[←HLN.out];exact(hk.cell (p:=⟨w.heap.size,5,none⟩) aat (by show¬(w.heap.size=g);omega)).trans (aM _ _ 5 _ 40 (0,0) nJ)
  obtain⟨hrp,fS,Wm,hrl,XS,XP⟩:=hrd;have hcj:wr.cell? ⟨g,j*11+2,none⟩=some (.slice rj.node.a rj.node.n rj.node.c):=by
   have hjl:j*11+2<L.length*11:=by omega
   rw[how.cellAt (j*11+2) hjl];exact vW Lk j rj MO 2 _ rfl
  have hdl:ej.node.data.length≤1000000:=HI.out.2.2.2.1 ej (bu he);have HCB:=cD (fun W (hW:cE w W)=>BE W rj.node.a rj.node.c lo ej.node.data hdl ((XS.below hW).mono (fun _ h=>h) hW.size) XP);rw[←hrl] at HCB;have HJ:=cD (cC hr (cC he (cC MO (cC how (cC hlo hhi)))));have Uj:=cD (cC Pg (cC SG (cC nJ (cC gQ (cC hsz (cC hrp (cC fS (cC Wm hrl))))))));obtain⟨na,hna⟩:∃n,n=rj.node.a:=⟨_,rfl⟩;obtain⟨nn,hnn⟩:∃n,n=rj.node.n:=⟨_,rfl⟩;obtain⟨nc,hnc⟩:∃n,n=rj.node.c:=⟨_,rfl⟩;rw[←hna,←hnn,←hnc] at hcj;rw[←hna,←hnn,←hnc] at HCB;have HNA:=cD (cC hna (cC hnn hnc));have i1:(0:Int)≤j:=by omega
  have i2:(j:Int)<ne:=by omega
  have nU:=cD aat;clear hna hnn hnc hr he MO how hlo hhi Pg SG nJ gQ hsz hrp fS Wm hrl XS XP hdl aat hLj;go_wp2_with fail
  refine rT fun wd hd=>?_
  refine NC (S':=fun w'=>cQ (·=g) wr w') (fun _ _=>trivial) _ _ _ _ ?_;have hS:cQ (·=g) wr wd:=dA hd;have HWD:=cD hd.size;have hcd:wd.cell? ⟨g,j*11+2,none⟩=some (.slice na nn nc):=(hd.cell (p:=⟨g,j*11+2,none⟩) Uj.out.2.1.2).trans hcj;refine tI 0 rfl hS ?_;refine tJ 1 rfl hS y5 ?_;refine tI 2 rfl hS ?_;refine tI 3 rfl hS ?_;simp only[cR];refine tJ 4 rfl hS y5 ?_;refine tI 5 rfl hS ?_;refine tI 6 rfl hS ?_;refine tI 7 rfl hS ?_;simp only[cR];refine tI 8 rfl hS ?_;simp only[cR];refine gI 9 rfl (.slice na nn nc) _ hS ?_;simp only[cR];refine cI 10 rfl ?_;refine(HCB.out wd (Uj.out.2.2.2.1.trans (hd.mono Uj.out.2.2.2.1.size))).mono ?_;rintro e wc ⟨a',c',rfl,B3,K3,N3,_⟩;have hdc:cE wr wc:=hd.trans (K3.mono hd.size);have BW:cQ (·=g) wr wc:=dA hdc;refine⟨BW,?_⟩;simp only[cR];refine tI 11 rfl BW ?_;refine tI 12 rfl BW ?_;refine tI 13 rfl BW ?_;simp only[cR];have Z9:=lE HJ.out.2.2.2.1 hdc;have hcc:wc.cell? ⟨g,j*11+2,none⟩=some (.slice na nn nc):=(hdc.cell (p:=⟨g,j*11+2,none⟩) Uj.out.2.1.2).trans hcj;have hfc:wc.frozen? ⟨g,j*11+2,none⟩=false:=Z9.frozenAt _;obtain⟨hst,hgr⟩:=Z9.stored (j*11+2) (.slice a' nn c');rw[HNA.out.2.1,Iq _ _ _ HJ.out.2.2.1,←HNA.out.2.1] at hst;have UO:cQ (·=g) wc (wc.setCell ⟨g,j*11+2,none⟩ (.slice a' nn c')):=(cQ.refl (·=g) wc).setCell (p:=⟨g,j*11+2,none⟩) rfl _;have YQ:=cD (cC hst (cC hgr (cC UO (cC hdc (cC B3 (cC K3 N3))))));refine uI 14 rfl (wc.setCell ⟨g,j*11+2,none⟩ (.slice a' nn c')) (BW.trans UO) ?_;simp only[cR];refine aL cJ ?_ _;clear hst hgr UO hdc B3 K3 N3 BW hS Z9 hcc hfc hcd hcj y5;go_wp2
  go_roundw
  case rel=>exact⟨j+1,by omega,by go_num,cD (HS.out.next Uj.out.1 HJ.out.2.2.2.2.1 HJ.out.2.2.2.2.2 HJ.out.1 HJ.out.2.1 Uj.out.2.1.1 Uj.out.2.1.2 wc YQ.out.2.2.2.1 a' c' wd.heap.size (by have:=YQ.out.2.2.2.1.size;exact HWD.out) YQ.out.2.2.2.2.1 YQ.out.2.2.2.2.2.2 Uj.out.2.2.2.2.2.1 Uj.out.2.2.2.2.2.2.1 Uj.out.2.2.2.2.2.2.2.1 Uj.out.2.2.2.2.2.2.2.2 _ YQ.out.2.2.1 YQ.out.1)⟩
  case measure=>simp[intOf];omega
 obtain rfl:ne=j:=by omega
 have t1:decide ((ne:Int)<(ne:Int))=false:=by simp
 have t2:decide (ne<ne)=false:=by simp
 have nJ:=HS.out.box;rw[HLN.out,←HN.out.1] at nJ;have HR:Hid (wr.rangeAt w.heap.size 0 [.i x.ew,.v (x.seq:Int),.i x.dO,.v (x.ep:Int),.slice a1 ns c1,.slice ga ne gc,.u (x.cl:Int)]):=cD (dJ nJ);have fm:Hid (cG 40 7):=cD cJ;have yY:=cD HS.out.th;have gG:Hid ((#[.i x.ew,.v (x.seq:Int),.i x.dO,.v (x.ep:Int),.slice a1 ns c1,.slice ga ne gc,.u (x.cl:Int)]:Array ay).all (·.oneCell')=true):=cD (by simp[aS]);clear hlt hj nJ;go_wp2_with (first
  |(refine wpList_load_mid rfl 40 (.tmp 1) rfl w.heap.size 0 rfl [.i x.ew,.v (x.seq:Int),.i x.dO,.v (x.ep:Int),.slice a1 ns c1,.slice ga ne gc,.u (x.cl:Int)] _ HR.out underlying40 rfl fm.out ?_)
  |(refine wpList_store_mid rfl 40 (.tmp 2) (.tmp 33) rfl (w.heap.size+1) 0 #[.i x.ew,.v (x.seq:Int),.i x.dO,.v (x.ep:Int),.slice a1 ns c1,.slice ga ne gc,.u (x.cl:Int)] rfl rfl yY.out fm.out gG.out ?_)
  |fail)
 refine bodyPost_ret (dz rfl _ _ (w.heap.size+1) 0 [.i x.ew,.v (x.seq:Int),.i x.dO,.v (x.ep:Int),.slice a1 ns c1,.slice ga ne gc,.u (x.cl:Int)] _ rfl (aF _ _ _ _ yY.out) underlying40 rfl fm.out) rfl ?_;have hK:=iw wr (w.heap.size+1) 0 [.i x.ew,.v (x.seq:Int),.i x.dO,.v (x.ep:Int),.slice a1 ns c1,.slice ga ne gc,.u (x.cl:Int)];obtain⟨Lk,Pg,how,hlo,_⟩:=HS.out.lk;have hsz:=HS.out.size;have adI:wr.ownsRow w2.heap.size 93 11 (.slice ga Lk.length gc) Lk.length (Lk.flatMap dr.cells):=by rw[Pg];exact how
 obtain⟨ga',gc',hgv,hE,hEn,_⟩:=yM adI;cases hgv;have hle:Lk.length=x.dF.length:=Pg.trans HI.out.2.2.2.2;refine⟨⟨a1,c1,ga,gc⟩,Lk,by rw[HN.out.1,HN.out.2],⟨?_,⟨hle,fun i r' e hi hee=>?_⟩,fun k q hq=>?_,?_⟩,fun ad e=>an (adI.lt ad.block (by have e:ga=some ad:=e;rw[e];rfl)).2 hK.size,HS.out.bl.trans (hK.below HS.out.bl.size (fun b e=>by have e:b=w.heap.size+1:=e;omega))⟩
 ·exact(HS.out.st.kept hK (fun b hb _ e=>by have hb:=hb.1;have e:b=w.heap.size+1:=e;omega)).mono (fun b _ hb=>by have hb:=hb.1;show w.heap.size≤b;omega)
 ·have hil:i<ne:=by rw[HN.out.2,←hle];exact(aq.1 hi).1
  obtain⟨z1,z2,z3⟩:=hlo i r' e hil hi hee;exact⟨z1,z2,z3.num,z3.len,(z3.data.kept hK (aC _) (fun b hb _ _ e=>by have hb:=hb.1;have e:b=w.heap.size+1:=e;omega)).mono (fun b hb=>by have hb:=hb.1;show w.heap.size≤b;omega) hK.size,z3.nil⟩
 ·obtain⟨b,off,e1,e2,e3⟩:=hE k q hq
  have hb:=hEn _ e1;exact⟨b,off,e1,an e2 hK.size,fun i u hu=>(hK.cell (p:=⟨b,off+k*11+i,none⟩) e2 (fun e=>by have e:b=w.heap.size+1:=e;have hb:w2.heap.size≤b:=hb;omega)).trans (e3 i u hu)⟩
 intro ad e;have:=hEn ad e;show w.heap.size≤_;omega
attribute [local go_sem] Oper.semAt_some
theorem Ox(W:ag)(x:fW)(q:ei)(hb hv:Nat)(h:aH W hb 36 (.v hv)):
  aA prog 106 #[eW x q,.p hb] W fun e w'=>e=.returned (.bool (decide (hv<x.seq)))∧cE W w':=by
 obtain⟨w1,hw1,dB,hs1,kP⟩:=dX W (cU x q) 40;have c1:w1.cell? ⟨W.heap.size,1,none⟩=some (.v x.seq):=kP w1 (af _ _) 1 _ rfl;have c2:w1.cell? ⟨hb,0,none⟩=some (.v hv):=(dB.cell (p:=⟨hb,0,none⟩) h.lt).trans h.cell;have HW:=cD (cC hw1 dB);clear hw1 dB hs1 kP h;unfold eW cU;unfold cU at HW;go_enter func106,ntmps106
 go_wp2_with (rw[←HW.out.1])
 go_ret
 exact⟨rfl,HW.out.2⟩
def KN(n₁ bo:Nat)(W W':ag):Prop:=cQ (fun b=>b=bo∨n₁≤b) W W'
section
variable{α:Type}(f:α→fW×ei)
def ij(hv:Nat)(I:List α)(k:Nat):List α:=(I.take k).filter fun x=>decide (hv<(f x).1.seq)
theorem Db{hv:Nat}{I:List α}{k:Nat}{x:α}(h:I[k]?=some x)(hx:decide (hv<(f x).1.seq)=true):ij f hv I (k+1)=ij f hv I k++[x]:=by
 unfold ij;rw[List.take_add_one,h,bF];simp at hx;simp[hx]
theorem JZ{hv:Nat}{I:List α}{k:Nat}{x:α}(h:I[k]?=some x)(hx:decide (hv<(f x).1.seq)=false):ij f hv I (k+1)=ij f hv I k:=by
 unfold ij;rw[List.take_add_one,h,bF];simp at hx;simp[hx]
theorem Oc(hv:Nat)(I:List α)(k:Nat):(ij f hv I k).length≤k:=by
 unfold ij;refine aJ (List.length_filter_le _ _) ?_;rw[List.length_take];omega
theorem Ob(hv:Nat)(I:List α)(k d:Nat):ij f hv I k <+: ij f hv I (k+d):=by
 unfold ij;have h:I.take (k+d)=I.take k++(I.drop k).take d:=List.take_add;rw[h,bF];exact List.prefix_append _ _
end
section
variable{F:Fence}{n:Nat}{P:Program}{ops:Array Oper}{rest:List Oper}{op:Oper}{a:Act}{w:World}{Q:Exit→Act→World→Prop}
theorem jN(hF:∀f,F.fn f)(hgd:bX op (yielded ops a.tmps)=true)(ty:bN)(x:Operand)(ho:op.op=.load ty x)
  (b o:Nat) (hx:a.eval x=.pointer (some ⟨b,o,none⟩)) (cs:List ay) (d:TypeDesc) (hc:w.rangeAt b o cs)
  (hu:P.underlying ty=some d) (hd:d.isRow=true) (hi:(P.info? ty).map (·.size)=some cs.length)
  (h:wpListIn F n P ops Q rest (a.put op.dst (.agg cs.toArray)) w):wpListIn F n P ops Q (op::rest) a w:=
 wpListIn_step fun K hK=>by
  rw[if_pos hgd];refine⟨fun f _=>hF f,?_⟩;rw[Oper.semAt_eq _ _ _ (fun c e=>by rw[ho] at e;cases e)];unfold execOp;simp only[ho,hx,Instr.loadAt,bW,bK,bJ,bA,run_loadVar_mid w b o ty cs d hc hu hd hi];exact hK _ _ h
theorem lB(hF:∀f,F.fn f)(hgd:bX op (yielded ops a.tmps)=true)(ty:bN)(x y:Operand)(ho:op.op=.store ty x y)
  (b o:Nat) (cells:Array ay) (hx:a.eval x=.pointer (some ⟨b,o,none⟩)) (hy:a.eval y=.agg cells)
  (ht:w.there b o cells.size) (hi:(P.info? ty).map (·.size)=some cells.size) (h1:cells.all (·.oneCell')=true)
  (h:wpListIn F n P ops Q rest (a.put op.dst aI) (w.setCells b o cells.toList)):wpListIn F n P ops Q (op::rest) a w:=
 wpListIn_step fun K hK=>by
  rw[if_pos hgd];refine⟨fun f _=>hF f,?_⟩;rw[Oper.semAt_eq _ _ _ (fun c e=>by rw[ho] at e;cases e)];unfold execOp;simp only[ho,hx,hy,Instr.storeAt,bW,bK,bJ,bA,run_storeVar_mid w b o ty cells ht hi h1];exact hK _ _ h
end
theorem aa2{α:Type}(f:α→fW×ei)(n l n₁ bo Bl Bw hb ob oo oc hv N:Nat)(I:List α)(hN:I.length≤N)(hlen:I.length≤1000000)(J Jx:List α→ag→Prop)
  (hY:∀pre x W,J pre W→pre.length<N→YieldAt aaq (n - 1) prog l #[eW (f x).1 (f x).2] W fun e W'=>
   (e=.returned (.T)∧J (pre++[x]) W'∧KN n₁ bo W W')∨(e=.returned (.F)∧Jx (pre++[x]) W'))
  (W:ag) (hJ:AbidesFrom W.heap.size J) (h1:aH W Bl 52 (.slice (some ⟨ob,oo,none⟩) I.length oc)) (h2:aH W Bw 71 (.func (.func 106) #[] #[.p hb]))
  (h3:aH W hb 36 (.v hv)) (hrow:∀(j:Nat) x,I[j]?=some x→W.rangeAt ob (oo+j*7) (cU (f x).1 (f x).2)) (hn:n₁≤W.heap.size)
  (l1:Bl<n₁∧Bl≠bo) (l2:Bw<n₁∧Bw≠bo) (l3:hb<n₁∧hb≠bo) (l4:ob<n₁∧ob≠bo) (h0:J [] W):
  CallsIn aaq n prog 200 #[.func (.yield l) #[] #[],.p Bl,.p Bw] W fun e W'=>(∃v,e=.returned v)∧
   ((∃ys,ys=ij f hv I I.length∧J ys W')∨(∃pre,pre <+: ij f hv I I.length∧Jx pre W')):=by
 obtain⟨k,hk⟩:=cF I.length;have hc1:=h1.cell;rw[←hk] at hc1 hN hlen⊢;have HK:=cD hk;have HH:=cD (cC h1 (cC h2 (cC h3 (cC hrow (cC hn (cC l1 (cC l2 (cC l3 l4))))))));have Qg:=cD (cC hJ hY);clear hk h1 h2 h3 hrow hJ hY hn l1 l2 l3 l4;refine callsIn_of_wp func200 rfl trivial ?_ rfl;simp only[ntmps200,aV,aN,bq,bC,bB,aQ,aP,aW,aR,bh,aZ];gi_wp2
 gi_loopw [8] (fun p wr=>∃i:Nat,i≤k∧p=.i i∧KN n₁ bo W wr∧J (ij f hv I i) wr)
  (fun p _=>k - (intOf p).toNat)
 case atStart=>exact⟨0,by omega,rfl,cQ.refl _ _,h0⟩
 obtain⟨i,hi,rfl,hKN,BX⟩:=hrel;have hF:∀f,Fence.wide.fn f:=fun _=>trivial
 by_cases hlt:i<k
 ·obtain⟨z,hx⟩:∃x,I[i]?=some x:=⟨_,aa (by rw[←HK.out];exact hlt)⟩
  obtain⟨⟨x,q⟩,hfz⟩:∃p,p=f z:=⟨_,rfl⟩;have Ss:=HH.out.2.2.2.1 i _ hx;rw[←hfz] at Ss;have HFZ:=cD hfz;have hsz:=hKN.size;have zN:=HH.out.2.2.2.2.1;have hrw:wr.rangeAt ob (oo+i*7) (cU x q):=fun j u hu=>(hKN.cell (p:=⟨ob,oo+i*7+j,none⟩) (by show ob<_;have:=HH.out.2.2.2.2.2.2.2.2.1;omega) (by have:=HH.out.2.2.2.2.2.2.2.2;show¬(ob=bo∨n₁≤ob);omega)).trans (Ss j u hu)
  obtain⟨w1,hw1⟩:=cF (wr.alloc (.cells #[.I,.V,.I,.V,.n,.n,.U] 40));have hbk:w1.heap[wr.heap.size]?=some (.cells #[.I,.V,.I,.V,.n,.n,.U] 40 (0,0)):=by rw[hw1];exact aO wr _
  have yY:Hid (w1.there wr.heap.size 0 7):=cD (ey hbk 0 7 cM);have Pc:cE wr w1:=by rw[hw1];exact cT (af _ _) _
  obtain⟨w2,fH⟩:=cF (w1.setCells wr.heap.size 0 (cU x q));have Sv:w2.rangeAt wr.heap.size 0 (cU x q):=by rw[fH];exact aF _ _ _ _ (by show w1.there wr.heap.size 0 7;exact yY.out)
  have dI:cE wr w2:=by rw[fH];exact Pc.trans ((iw w1 wr.heap.size 0 _).below Pc.size (fun b e=>by have e:b=wr.heap.size:=e;omega))
  have HGD:=cD (cC hw1 fH);have CN:=cD (cC hrw Sv);have HB:=cD (cC hKN (cC hx (cC dI BX)));have fm:Hid (cG 40 7):=cD cJ;have gG:Hid ((cU x q).toArray.all (·.oneCell')=true):=cD (by simp[cU,aS]);have i1:(0:Int)≤i:=by omega
  have i2:(i:Int)<k:=by omega
  have hcw:w2.cell? ⟨Bw,0,none⟩=some (.func (.func 106) #[] #[.p hb]):=by
   have e1:=HH.out.2.1;have e2:=HH.out.2.2.2.2.2.2.1;exact(dI.cell (p:=⟨Bw,0,none⟩) (by show Bw<_;omega)).trans ((hKN.cell (p:=⟨Bw,0,none⟩) (by show Bw<_;omega) (by show¬(Bw=bo∨n₁≤Bw);omega)).trans e1.cell)
  have hhb:aH w2 hb 36 (.v hv):=by
   have e1:=HH.out.2.2.1;have e2:=HH.out.2.2.2.2.2.2.2.1;exact(dI.block _ cK).trans ((hKN.block _ cK (by show¬(hb=bo∨n₁≤hb);omega)).trans e1)
  have Cc:=cD (Ox w2 x q hb hv hhb);obtain⟨hit,Ky⟩:∃b,b=decide (hv<x.seq):=⟨_,rfl⟩;rw[←Ky] at Cc;have LU:=cD Ky;unfold eW at Cc;unfold cU at CN HGD gG Cc;clear Ss hfz hrw hw1 hbk Pc fH Sv dI hKN hx BX hhb Ky hsz zN;gi_wp2_with (first
   |(refine jN (fun _=>trivial) cN 40 (.tmp 10) rfl ob (oo+i*7) rfl [.i x.ew,.v (x.seq:Int),.i x.dO,.v (x.ep:Int),.slice q.sa x.de.length q.sc,.slice q.ea x.dF.length q.ec,.u (x.cl:Int)] _ CN.out.1 underlying40 rfl fm.out ?_)
   |(rw[←HGD.out.1];refine lB (fun _=>trivial) cN 40 (.tmp 5) (.tmp 11) rfl wr.heap.size 0 #[.i x.ew,.v (x.seq:Int),.i x.dO,.v (x.ep:Int),.slice q.sa x.de.length q.sc,.slice q.ea x.dF.length q.ec,.u (x.cl:Int)] rfl rfl yY.out fm.out gG.out ?_;rw[←HGD.out.2])
   |(refine jN (fun _=>trivial) cN 40 (.tmp 5) rfl wr.heap.size 0 rfl [.i x.ew,.v (x.seq:Int),.i x.dO,.v (x.ep:Int),.slice q.sa x.de.length q.sc,.slice q.ea x.dF.length q.ec,.u (x.cl:Int)] _ CN.out.2 underlying40 rfl fm.out ?_)
   |fail)
  refine⟨(fun h=>(by cases h)),?_⟩;refine(aU.2 Cc.out).mono ?_;rintro e w3 ⟨rfl,eO⟩;have iU:cE wr w3:=HB.out.2.2.1.trans (eO.mono HB.out.2.2.1.size);have Ia:W.heap.size≤wr.heap.size:=HB.out.1.size;have Pj:J (ij f hv I i) w3:=Qg.out.1 _ _ _ none HB.out.2.2.2 ⟨iU.os,iU.tape,iU.output,iU.size,fun b hb _=>iU.block b hb⟩ (fun _ e=>by cases e);have Jg:KN n₁ bo W w3:=HB.out.1.trans (dA iU);have DD:w3.rangeAt wr.heap.size 0 [.i x.ew,.v (x.seq:Int),.i x.dO,.v (x.ep:Int),.slice q.sa x.de.length q.sc,.slice q.ea x.dF.length q.ec,.u (x.cl:Int)]:=dR CN.out.2 eO (by have:=HB.out.2.2.1.size;have:=cA _ _ (CN.out.2 0 _ rfl);exact this);have H3:=cD (cC Pj (cC Jg DD));clear eO iU Ia Pj Jg DD hcw;cases hit with
  |false=>
   gi_wp2
   exact⟨⟨i+1,by omega,by go_num,H3.out.2.1,by rw[JZ f HB.out.2.1 (by rw[←HFZ.out];exact LU.out.symm)];exact H3.out.1⟩,by simp[intOf];omega⟩
  |true=>
  have yE:=Oc f hv I i;obtain⟨fn,tmps,assign,body,hy,hR⟩:=Qg.out.2 _ z _ H3.out.1 cK;rw[←HFZ.out] at hy;unfold eW cU at hy;dsimp only at hy;gi_wp2_with (first
   |(refine jN (fun _=>trivial) cN 40 (.tmp 5) rfl wr.heap.size 0 rfl [.i x.ew,.v (x.seq:Int),.i x.dO,.v (x.ep:Int),.slice q.sa x.de.length q.sc,.slice q.ea x.dF.length q.ec,.u (x.cl:Int)] _ H3.out.2.2 underlying40 rfl fm.out ?_)
   |fail)
  refine⟨(fun h=>(by cases h)),?_⟩;refine hR.mono ?_;rintro e W4 (⟨rfl,hJ4,X4⟩|⟨rfl,ajm⟩)
  ·gi_wp2
   exact⟨⟨i+1,by omega,by go_num,H3.out.2.1.trans X4,by rw[Db f HB.out.2.1 (by rw[←HFZ.out];exact LU.out.symm)];exact hJ4⟩,by simp[intOf];omega⟩
  gi_wp2
  refine bodyPost_ret (results_none rfl _ _ _) rfl ?_;have hr:=Ob f hv I (i+1) (k - (i+1));rw[show i+1+(k - (i+1))=k by omega,Db f HB.out.2.1 (by rw[←HFZ.out];exact LU.out.symm)] at hr;exact⟨⟨_,rfl⟩,.inr ⟨_,hr,ajm⟩⟩
 have hc2:decide ((i:Int)<(k:Int))=false:=by simp;omega
 have hc3:decide (i<k)=false:=by simp;omega
 gi_wp2
 go_end0
 obtain rfl:i=k:=by omega
 exact⟨⟨_,rfl⟩,.inl ⟨_,by rw[HK.out],BX⟩⟩
theorem aa1{α:Type}(n l Bl Bw:Nat)(v:ay)(J Jx:List α→ag→Prop)(W:ag)(h1:aH W Bl 52 (.n))(h0:J [] W):
  CallsIn aaq n prog 200 #[.func (.yield l) #[] #[],.p Bl,v] W fun e W'=>(∃v,e=.returned v)∧
   ((∃ys,ys=([]:List α)∧J ys W')∨(∃pre,pre <+: ([]:List α)∧Jx pre W')):=by
 have hc1:=h1.cell;have H0:=cD h0;clear h1 h0;refine callsIn_of_wp func200 rfl trivial ?_ rfl;simp only[ntmps200,aV,aN,bq,bC,bB,aQ,aP,aW,aR,bh,aZ];gi_wp2
 gi_loopw [8] (fun p wr=>p=.I∧Hid (J [] wr)) (fun p _=>1)
 case atStart=>exact⟨rfl,H0⟩
 obtain⟨rfl,HS⟩:=hrel;gi_wp2
 go_end0
 exact⟨⟨_,rfl⟩,.inl ⟨_,rfl,HS.out⟩⟩
theorem M7(w:ag)(a:Option bG)(n c:Nat)(f:FuncId)(cp:Array ay):
  aA prog 105 #[.slice a n c,.func (.func f) #[] cp] w fun e w'=>e=.returned (.func (.func 200) #[] #[.p w.heap.size,.p (w.heap.size+1)])∧w'=(w.alloc (.cells #[.slice a n c] 52)).alloc (.cells #[.func (.func f) #[] cp] 71):=by
 go_enter func105,ntmps105
 go_wp2
 go_ret
 exact⟨rfl,rfl⟩
def rW(w:ag)(b:Nat):Prop:=∃cs t fr,w.heap[b]?=some (.cells cs t fr)
theorem xU{w:ag}{b o:Nat}{v:ay}(h:w.cell? ⟨b,o,none⟩=some v):rW w b:=by
 unfold bL at h;split at h
 ·rename_i cs t fr e
  exact⟨_,_,_,e⟩
 simp at h
theorem dK.Lu{w:ag}{lo:Nat→Prop}{a:Option bG}{V:List Nat}(h:dK w lo a V):dK w (fun b=>lo b∧rW w b) a V:=fun k v hk=>by
 obtain⟨b,off,e1,e2,e3,e4⟩:=h k v hk;exact⟨b,off,e1,⟨e2,xU e4⟩,e3,e4⟩
theorem eP.Lu{w:ag}{lo:Nat→Prop}{hi:Nat}{a:Option bG}{D:cO}(h:eP w lo hi a D):eP w (fun b=>lo b∧rW w b) hi a D:=fun k v hk=>by
 obtain⟨b,off,e1,e2,e3,e4⟩:=h k v hk;exact⟨b,off,e1,⟨e2,xU e4⟩,e3,e4⟩
theorem ez.kE{w w':ag}{lo S:Nat→Prop}{r:ei}{L:List dr}{x:fW}(h:ez w lo r L x)(hk:cQ S w w')(hS:∀b,lo b→rW w b→¬S b):ez w' lo r L x:=by
 refine⟨(h.de.Lu.kept hk (fun b hb _=>hS b hb.1 hb.2)).mono (fun b _ hb=>hb.1),⟨h.like.1,fun k q e h1 h2=>?_⟩,fun k q hq=>?_,h.new⟩
 ·obtain⟨g1,g2,g3⟩:=h.like.2 k q e h1 h2
  exact⟨g1,g2,g3.num,g3.len,(g3.data.Lu.kept hk (aC _) (fun b hb _ _=>hS b hb.1 hb.2)).mono (fun b hb=>hb.1) hk.size,g3.nil⟩
 obtain⟨b,off,e1,e2,e3⟩:=h.row k q hq;have hc:rW w b:=xU (e3 0 _ cN);exact⟨b,off,e1,an e2 hk.size,fun j v hv=>(hk.cell (p:=⟨b,off+k*11+j,none⟩) e2 (hS b (h.new _ e1) hc)).trans (e3 j v hv)⟩
theorem vz{w:ag}{base size n:Nat}{e:bN}{v:ay}{xs:List ay}(h:w.ownsRow base e size v n xs){g:Nat}(hg:v.ownBlock=some g):∃cur,w.heap[g]?=some (.cells cur e (0,0)):=by
 rcases h.2 with ⟨e1,_⟩|⟨g',cap,cur,e1,_,h2,_⟩
 ·rw[e1] at hg;cases hg
 rw[e1] at hg;have:g'=g:=by cases hg;rfl
 subst this;exact⟨cur,h2⟩
theorem ez.bound{w:ag}{lo:Nat→Prop}{r:ei}{L:List dr}{x:fW}(h:ez w lo r L x)(he:∀ad,r.ea=some ad→ad.block<w.heap.size):ez w (fun b=>lo b∧b<w.heap.size) r L x:=
 ⟨h.de.mono (fun b h1 h2=>⟨h2,h1⟩),h.like.both (fun b h1 h2=>⟨h1,h2⟩),h.row,fun ad e=>⟨h.new ad e,he ad e⟩⟩
def wJ(w:ag)(bo:Nat)(pre:List (fW×ei))(W:ag):Prop:=
 ∃(v:ay) (C:List (ei×List dr)),C.length=pre.length∧aH W bo 52 v∧W.ownsRow (w.heap.size+4) 40 7 v pre.length ((pre.zip C).flatMap fun p=>cU p.1.1 p.2.1)∧
  (∀(i:Nat) x c,pre[i]?=some x→C[i]?=some c→ez W (fun b=>w.heap.size≤b∧v.ownBlock≠some b∧b≠bo) c.1 c.2 x.1∧∀ad,c.1.ea=some ad→ad.block<W.heap.size)∧cE w W
theorem pq(w:ag)(bo B:Nat)(hB:w.heap.size≤B):OwnFrom B (wJ w bo):=by
 rintro s X Y row ⟨v,C,h1,hv,hr,hI,hb⟩ hg hrow;have hk:=gz hg;have hne:∀b,rW X b→¬row=some b:=fun b ⟨cs,t,fr,hc⟩ e=>by
  obtain⟨_,o,ho,hno⟩:=hrow b e;rw[hc] at ho;cases ho;cases hno
 have hbo:rW X bo:=⟨_,_,_,hv⟩;refine⟨v,C,h1,hv.kept hg (fun e=>hne bo hbo e.symm),fA hr hk (fun g hg' e=>?_),fun i x c hx hc=>⟨(hI i x c hx hc).1.kE hk (fun b _ hc=>hne b hc),fun ad e=>an ((hI i x c hx hc).2 ad e) hk.size⟩,hb.grown hg hb.size (fun g e=>aJ hB (hrow g e).1)⟩;rcases hr.2 with ⟨rfl,_⟩|⟨g',cap,cur,rfl,_,DF,_⟩
 ·cases hg'
 cases hg';exact hne _ ⟨_,_,_,DF⟩ e
theorem Di{w W:ag}{bo:Nat}(hv:aH W bo 52 (.n))(hb:cE w W):wJ w bo [] W:=
 ⟨_,[],rfl,hv,aaD _ _ _ _,fun i x c hx=>by simp at hx,hb⟩
theorem GP{w W W':ag}{bo:Nat}{pre:List (fW×ei)}(h:wJ w bo pre W)(hb:cE W W'):wJ w bo pre W':=
 pq w bo w.heap.size (aC _) pre W W' none h ⟨hb.os,hb.tape,hb.output,hb.size,fun b hl _=>hb.block b hl⟩ (fun r e=>by cases e)
theorem qA{B:Nat}{W W':ag}(hb:cE W W'):KeepsFrom B W W':=⟨hb.size,fun k o _ ho _=>(hb.block k (Array.getElem?_eq_some_iff.1 ho).1).trans ho⟩
attribute [local go_sem] Oper.semAt_some
def Nl(w:ag)(lo:Nat→Prop)(ao:Option bG)(I:List (fW×ei))(C:List (List dr)):Prop:=
 ∀(k:Nat) x,I[k]?=some x→∃b off,ao=some ⟨b,off,none⟩∧b<w.heap.size∧w.rangeAt b (off+k*7) (cU x.1 x.2)∧∃L,C[k]?=some L∧ez w lo x.2 L x.1
def wK(w:ag)(P:List (fW×ei))(e:Ending)(w':ag):Prop:=
 ∃(v:ay) (C:List (ei×List dr)),e=.returned v∧C.length=P.length∧w'.ownsRow w.heap.size 40 7 v P.length ((P.zip C).flatMap fun p=>cU p.1.1 p.2.1)∧
  (∀(i:Nat) x c,P[i]?=some x→C[i]?=some c→ez w' (fun b=>w.heap.size≤b∧v.ownBlock≠some b) c.1 c.2 x.1)∧cE w w'
theorem Hw:(prog.info? 40).map (fun i=>(i.zero,i.size,i.bytes))=some (some (.agg #[.I,.V,.I,.V,.n,.n,.U]),7,88):=by kernel_rfl
theorem xm{α:Type}(f:α→fW×ei)(hv:Nat)(I:List α)(k:Nat):(ij f hv I k).map f=ij id hv (I.map f) k:=by
 unfold ij;rw[←List.map_take,List.filter_map];rfl
theorem pE{P:Program}{oi:Oper}{a:Act}{w:ag}(ty:bN)(x:Operand)(ho:oi.op=.load ty x)(b o:Nat)(hx:a.eval x=.pointer (some ⟨b,o,none⟩))(cs:List ay)(d:TypeDesc)(hc:w.rangeAt b o cs)
  (hu:P.underlying ty=some d) (hd:d.isRow=true) (hi:(P.info? ty).map (·.size)=some cs.length):(execOp a.eval oi).run P w=.ok (.value (.agg cs.toArray)) w:=by
 unfold execOp;simp only[ho,hx,Instr.loadAt,bW,bK,bJ,bA,run_loadVar_mid w b o ty cs d hc hu hd hi]
theorem mw{F:Fence}{n:Nat}{P:Program}{o:Oper}{a:Act}{w:ag}{K:Act→ag→Prop}{Q:Exit→Act→ag→Prop}(s x:Operand)(t:bN)
  (hop:o.op=Op.call {callee:=Callee.builtin Builtin.append,args:=#[s,x],argTypes:=#[t,t]})
  (v u v':ay) (w':ag) (hs:a.eval s=v) (hx:a.eval x=u) (hr:(Builtin.append_ #[t,t] o.type #[v,u]).run P w=.ok v' w') (hK:K (a.put o.dst v') w'):Oper.wpIn F n P o a w K Q:=by
 unfold Oper.wpIn;refine⟨?_,?_⟩
 ·simp[Oper.about,hop,resolve,Target.leads,bJ]
 rw[Oper.semAt_plain F _ _ (by rw[hop];intro c hc';cases hc')];simp[execOp,hop,resolve,invoke,builtin,hs,hx,hr,bQ];exact hK
theorem GN(w:ag)(ob oo oc hv:Nat)(I:List (fW×ei))(C0:List (List dr))(lo:Nat→Prop)(hI:Nl w lo (some ⟨ob,oo,none⟩) I C0)(hlen:I.length≤1000000)(UL:ob<w.heap.size)
  (hs:∀x∈I,x.1.de.length≤1000∧x.1.dF.length≤1000∧∀e∈x.1.dF,e.node.data.length≤1000000):
  aA prog 47 #[.slice (some ⟨ob,oo,none⟩) I.length oc,.v hv] w (wK w ((ij id hv I I.length).take 8)):=by
 have HI:=cD (cC hI (cC hlen (cC UL hs)));obtain⟨k,hk⟩:=cF I.length;have HK:=cD hk;rw[←hk];clear hI hlen UL hs hk;refine(aU (n:=2)).1 ?_;refine callsIn_of_wp_marks func47 rfl trivial ?_ rfl;simp only[ntmps47,aV,aN,bq,bC,bB,aQ,aP,aW,aR,bh,aZ];gi_wp2_with fail
 refine⟨trivial,?_⟩;refine(aU.2 (M7 _ _ _ _ _ _)).mono ?_;rintro e w' ⟨rfl,rfl⟩;gi_wp2
 obtain⟨W0,Bb⟩:∃W0,((((w.alloc (.cells #[.v hv] 36)).alloc (.cells #[.n] 52)).alloc (.cells #[.slice (some ⟨ob,oo,none⟩) k oc] 52)).alloc (.cells #[.func (.func 106) #[] #[.p w.heap.size]] 71))=W0:=⟨_,rfl⟩;have b1:=(((au w 36 (.v hv)).alloc (.cells #[.n] 52)).alloc (.cells #[.slice (some ⟨ob,oo,none⟩) k oc] 52)).alloc (.cells #[.func (.func 106) #[] #[.p w.heap.size]] 71);have b2:=((au (w.alloc (.cells #[.v hv] 36)) 52 (.n)).alloc (.cells #[.slice (some ⟨ob,oo,none⟩) k oc] 52)).alloc (.cells #[.func (.func 106) #[] #[.p w.heap.size]] 71);have b3:=(au ((w.alloc (.cells #[.v hv] 36)).alloc (.cells #[.n] 52)) 52 (.slice (some ⟨ob,oo,none⟩) k oc)).alloc (.cells #[.func (.func 106) #[] #[.p w.heap.size]] 71);have b4:=au (((w.alloc (.cells #[.v hv] 36)).alloc (.cells #[.n] 52)).alloc (.cells #[.slice (some ⟨ob,oo,none⟩) k oc] 52)) 71 (.func (.func 106) #[] #[.p w.heap.size]);rw[ah] at b2;rw[ah,ah] at b3;rw[ah,ah,ah] at b4;rw[Bb] at b1 b2 b3 b4⊢;have hs0:W0.heap.size=w.heap.size+4:=by rw[←Bb];simp
 have BZ:cE w W0:=by rw[←Bb];exact cT (cT (cT (cT (af _ w) _) _) _) _
 have nU:=cD (cC b1 (cC b2 (cC b3 (cC b4 (cC hs0 BZ)))));clear Bb b1 b2 b3 b4 hs0 BZ;refine wpIn_rangeFunc_ownH (α:={x:fW×ei // x∈I}) rfl cK (gf:=200) (lb:=#[.p (w.heap.size+1+1),.p (w.heap.size+1+1+1)]) rfl trivial (cq func200 cJ rfl)
  (encs:=fun x=>#[eW x.1.1 x.1.2]) (Kp:=KN (w.heap.size+4) (w.heap.size+1)) (S:=fun ys=>ys=ij aj hv I.attach I.attach.length) (Sp:=fun pre=>pre <+: ij aj hv I.attach I.attach.length) (N:=1000001) (w0:=W0) ?seq
  (fun h k=>h.trans k) ?kb (af _ _) (fun _=>rfl)
  (fun pre W=>wJ w (w.heap.size+1) (pre.map aj) W∧pre.length<8∧w.heap.size+4≤W.heap.size) (fun c pre W=>c=.exit 0∧wJ w (w.heap.size+1) (pre.map aj) W∧pre.length=8)
  (fun s A B row hs hg hr=>⟨pq w _ _ (by have:=nU.out.2.2.2.2.1;omega) _ A B row hs.1 hg hr,hs.2.1,aJ hs.2.2 hg.size⟩)
  (fun c s A B row hs hg hr=>⟨hs.1,pq w _ _ (by have:=nU.out.2.2.2.2.1;omega) _ A B row hs.2.1 hg hr,hs.2.2⟩)
  ⟨Di nU.out.2.1 nU.out.2.2.2.2.2,by simp,by have:=nU.out.2.2.2.2.1;omega⟩
  (fun x a' W=>∃xb,w.heap.size+4≤xb∧W.heap[xb]?=some (.cells (cU x.1.1 x.1.2).toArray 40 (0,0))∧a'={tmps:=#[.slice (some ⟨ob,oo,none⟩) k oc,.v hv,aI,.p w.heap.size,.n,.p (w.heap.size+1),.p xb,.slice (some ⟨ob,oo,none⟩) k oc,.func (.func 106) #[] #[.p w.heap.size],.func (.func 200) #[] #[.p (w.heap.size+1+1),.p (w.heap.size+1+1+1)],eW x.1.1 x.1.2,aI,aI,aI,aI,aI,aI,aI,aI,aI],defers:=[]})
  (fun x a' s A B row hs hg hr=>?ax) ?assign ?body ?done ?stop
 case seq=>
  intro l J Jx W hW hJ hJx hY hJ0;obtain⟨b1,b2,b3,b4,hs0,BZ⟩:=nU.out;obtain⟨hI,hlen,UL,_⟩:=HI.out;have hk:=HK.out;have hB:=BZ.trans (hW.mono BZ.size);have hws:=hW.size;refine aa2 aj 1 l (w.heap.size+4) (w.heap.size+1) (w.heap.size+1+1) (w.heap.size+1+1+1) w.heap.size ob oo oc hv 1000001 I.attach (by rw[aD];omega) (by rw[aD];exact hlen) J Jx hY W hJ ?_ ?_ ?_ ?_ cK cK cK cK cK hJ0
  ·rw[aD,←hk];exact(hW.block _ cK).trans b3
  ·exact(hW.block _ cK).trans b4
  ·exact(hW.block _ cK).trans b1
  intro j x hx;have hx2:I[j]?=some x.1:=by
   have h:=congrArg (Option.map aj) hx;rw[←List.getElem?_map,aG] at h;exact h
  obtain⟨b,off,e1,e2,e3,_⟩:=hI j _ hx2;cases e1;exact dR e3 hB UL
 case kb=>
  intro W l o o' hl ho hc hw;have hs0:=nU.out.2.2.2.2.1;exact⟨rfl,rfl,rfl,by simp[bg],fun b hb hnb=>aB (fun e=>hnb (.inr cK))⟩
 case ax=>
  obtain⟨xb,h1,h2,h3⟩:=hs;refine⟨xb,h1,(hg.block xb (cz h2) (fun e=>?_)).trans h2,h3⟩;obtain⟨_,o,ho,hno⟩:=hr xb e.symm;rw[h2] at ho;cases ho;cases hno
 case assign=>
  rintro l pre ⟨⟨x,q⟩,hxI⟩ W K ⟨hI,AW,Ia⟩ hK;obtain⟨W1,Cz⟩:=cF (W.alloc (.cells #[.I,.V,.I,.V,.n,.n,.U] 40));have hbk:W1.heap[W.heap.size]?=some (.cells #[.I,.V,.I,.V,.n,.n,.U] 40 (0,0)):=by rw[Cz];exact aO W _
  have dB:cE W W1:=by rw[Cz];exact cT (af _ _) _
  have dI:cE W (W1.setCells W.heap.size 0 (cU x q)):=dB.trans ((iw W1 W.heap.size 0 _).below dB.size (fun b e=>by have e:b=W.heap.size:=e;omega));have ael:(W1.setCells W.heap.size 0 (cU x q)).heap[W.heap.size]?=some (.cells (cU x q).toArray 40 (0,0)):=gq hbk rfl;have yY:Hid (W1.there W.heap.size 0 7):=cD (ey hbk 0 7 cM);have fm:Hid (cG 40 7):=cD cJ;have gG:Hid ((cU x q).toArray.all (·.oneCell')=true):=cD (by simp[cU,aS]);have UT:=cD (hK _ _ (qA dI) (dA dI) ⟨GP hI dI,AW,aJ Ia dI.size⟩ ⟨_,Ia,ael,rfl⟩);have nS:=cD Cz;unfold cU at UT gG;unfold eW cU at UT⊢;dsimp only at UT⊢;clear hK hbk dB dI ael Cz hI;gi_wp2_with (first
   |(rw[←nS.out];refine lB (fun _=>trivial) cN 40 (.tmp 6) (.tmp 10) rfl W.heap.size 0 #[.i x.ew,.v (x.seq:Int),.i x.dO,.v (x.ep:Int),.slice q.sa x.de.length q.sc,.slice q.ea x.dF.length q.ec,.u (x.cl:Int)] rfl rfl yY.out fm.out gG.out ?_)
   |fail)
  exact UT.out
 case body=>
  rintro l pre ⟨⟨x,q⟩,hxI⟩ a' W hl hloop ⟨⟨v,C,h1,Cu,hr,hI,hb⟩,AW,Ia⟩ ⟨xb,hx1,hx2,rfl⟩ hlt;have y5:∀w',cE W w'→w'.cell? ⟨w.heap.size+1,0,none⟩=some v:=fun w' h=>(h.cell (p:=⟨w.heap.size+1,0,none⟩) Cu.lt).trans Cu.cell
  have y6:∀w',cE W w'→w'.rangeAt xb 0 (cU x q):=fun w' h=>dR (dJ hx2) h (cz hx2)
  have fm:Hid (cG 40 7):=cD cJ;have Np:Hid (∀w',cE W w'→aA prog 107 #[eW x q] w' fun e w''=>∃r' L',e=.returned (eW x r')∧ez w'' (fU w'.heap.size) r' L' x∧(∀ad,r'.ea=some ad→ad.block<w''.heap.size)∧cE w' w''):=cD (fun w' h=>by
   obtain⟨k0,hk0⟩:=List.mem_iff_getElem?.1 hxI;obtain⟨_,_,_,_,_,L,_,hit⟩:=HI.out.1 k0 _ hk0;obtain⟨z1,z2,z3⟩:=HI.out.2.2.2 _ hxI;exact NJ w' x q L lo (hit.below (hb.trans (h.mono hb.size))) z1 z2 z3)
  have HF:=cD (cC h1 (cC hr (cC hI (cC hb (cC Cu (cC AW (cC Ia (cC hx1 (cC hx2 (cC hl hxI))))))))));have hS:cE W W.drew:=(af _ W).drew;clear h1 hr hI hb Cu AW Ia hx1 hx2 hl;unfold eW cU;unfold eW cU at Np;unfold cU at y6;dsimp only;gi_wp2_with fail
  refine fB (S:=fun w'=>cE W w') (c:=4) ?_;refine fI 0 rfl hS (fun w' hS'=>by have:=y5 w' hS';go_simp<;>rfl) ?_;simp only[cR];refine fI 1 rfl hS (fun w' hS'=>pE 40 (.tmp 6) rfl xb 0 rfl _ _ (y6 w' hS') underlying40 rfl fm.out) ?_;simp only[cR];refine fK 2 rfl fun K' gv=>?_
  gi_wp2_with fail
  refine⟨trivial,rfl,(CallsIn.inRound l (aU.2 (Np.out W.drew hS))).mono ?_⟩;rintro e wc ⟨⟨sa',JO,ea',Lc⟩,L',rfl,aiH,aef,ai3⟩;have hbc:cE W wc:=hS.trans ai3;obtain⟨h1,hr,hI,hb,Cu,AW,Ia,hx1,hx2,hl,hxI⟩:=HF.out;have hrc:=lE hr hbc;have hvc:aH wc (w.heap.size+1) 52 v:=(hbc.block _ Cu.lt).trans Cu;obtain⟨i0,wS,hz0,hz1,hz2⟩:=info_parts Hw;dsimp only[cD];obtain⟨wa,vO⟩:=cF (wc.alloc (.cells #[.i x.ew,.v (x.seq:Int),.i x.dO,.v (x.ep:Int),.slice sa' x.de.length JO,.slice ea' x.dF.length Lc,.u (x.cl:Int)] 40));have hba:cE W wa:=by rw[vO];exact cT hbc _
  have Kw:wa.ownsRow (w.heap.size+4) 40 7 v pre.length (((pre.map aj).zip C).flatMap fun p=>cU p.1.1 p.2.1):=by
   rw[vO];have:=hrc.alloc (.cells #[.i x.ew,.v (x.seq:Int),.i x.dO,.v (x.ep:Int),.slice sa' x.de.length JO,.slice ea' x.dF.length Lc,.u (x.cl:Int)] 40);simpa using this
  have hca:∀j u,([.i x.ew,.v (x.seq:Int),.i x.dO,.v (x.ep:Int),.slice sa' x.de.length JO,.slice ea' x.dF.length Lc,.u (x.cl:Int)]:List ay)[j]?=some u→wa.cell? ((⟨wc.heap.size,0,none⟩:bG).add j)=some u:=fun j u hu=>by
   rw[Addr.add_lit,aK,vO,aM _ _ j _ 40 (0,0) (aO wc _)];simpa using hu
  obtain⟨v',w6,UJ,hown',hgrow,zu⟩:=gC (P:=prog) (w:=wa) (w.heap.size+4) 52 52 40 i0 (.agg #[.I,.V,.I,.V,.n,.n,.U]) 7 88 underlying52 wS hz0 hz1 hz2 rfl cL v _ _ Kw ⟨wc.heap.size,0,none⟩ 1 1 _ rfl hca (by intro u hu;simp only[List.mem_cons,List.not_mem_nil,or_false] at hu;rcases hu with rfl|rfl|rfl|rfl|rfl|rfl|rfl<;>rfl) (by unfold maxLen;omega) cK (by have:=hba.size;omega);obtain⟨g',cap',rfl⟩:=ownsRow_succ hown';rw[vO] at hgrow zu;obtain⟨sN,qg,hr2,_,_⟩:=pQ (n:=w.heap.size+4) hvc cL hrc (by have:=hbc.size;omega) (aC _) hown' hgrow zu;have hc1:=sN.cell;have AY:=sN.frozen;have hc2:=qg.cell;obtain⟨wf,hwf⟩:=cF (w6.setCell ⟨w.heap.size+1,0,none⟩ (.slice (some ⟨g',0,none⟩) (pre.length+1) cap'));rw[←hwf] at qg hr2 hc2;have O6:cQ (fun b=>b=w.heap.size+1∨v.ownBlock=some b) W wf:=by
   rw[hwf];exact((dA (S:=fun b=>b=w.heap.size+1∨v.ownBlock=some b) hbc).alloc _).trans (((gz hgrow).mono (fun k _ e=>.inr e)).setCell (.inl rfl) _)
  have hnS:∀b,v.ownBlock=some b→w.heap.size+4≤b:=fun b e=>(hr.lt b e).1
  have hkn:KN (w.heap.size+4) (w.heap.size+1) W wf:=O6.mono (fun b _ e=>e.imp id (hnS b));have hkeep:KeepsFrom W0.heap.size W wf:=⟨O6.size,fun b o _ ho hno=>O6.same ho (fun e=>by
   rcases e with rfl|e
   ·have aiY:W.heap[w.heap.size+1]?=_:=Cu
    rw[aiY] at ho;cases ho;cases hno
   obtain⟨cur,SJ⟩:=vz hr e;rw[SJ] at ho;cases ho;cases hno)⟩
  have qG:wJ w (w.heap.size+1) (pre.map aj++[(x,q)]) wf:=by
   refine⟨_,C++[(⟨sa',JO,ea',Lc⟩,L')],by rw[aE,aE,h1];rfl,qg,?_,fun i y c hy hc=>?_,hb.trans (O6.below hb.size (fun b e=>by
    rcases e with rfl|e
    ·omega
    have:=hnS b e;omega))⟩
   ·rw[List.zip_append h1.symm,List.flatMap_append,aE,bU]
    simpa [cU] using hr2
   have X7:∀b,(aT (some ⟨g',0,none⟩) (pre.length+1) cap').ownBlock=some b→v.ownBlock=some b∨wc.heap.size<b:=fun b e=>by
    rcases zu b e with h|h
    ·exact .inl h
    rw[ah] at h;exact .inr cK
   rcases Nat.lt_or_ge i (pre.map aj).length with hlt2|hge
   ·rw[cw hlt2] at hy
    rw[cw (by rw[h1];exact hlt2)] at hc;obtain⟨z1,z2⟩:=hI i y c hy hc;refine⟨((z1.bound z2).kept O6 (fun b dI e=>?_)).mono (fun b dI=>⟨dI.1.1,fun e=>?_,dI.1.2.2⟩),fun ad e=>an (z2 ad e) O6.size⟩
    ·rcases e with e|e
     ·exact dI.1.2.2 e
     exact dI.1.2.1 e
    rcases X7 b e with h|h
    ·exact dI.1.2.1 h
    have:=hbc.size;omega
   rw[bZ hge] at hy;rw[bZ (by rw[h1];exact hge)] at hc;have h0:i - (pre.map aj).length=0:=by
    have:=(aq.1 hy).1;simp at this⊢;omega
   rw[h0] at hy;rw[h1,h0] at hc;simp at hy hc;subst hy hc;have hkc:cQ (fun b=>b=w.heap.size+1∨v.ownBlock=some b) wc wf:=by
    rw[hwf];exact((cQ.refl _ wc).alloc _).trans (((gz hgrow).mono (fun k _ e=>.inr e)).setCell (.inl rfl) _)
   have hbo:=Cu.lt;refine⟨((aiH.bound aef).kept hkc (fun b dI e=>?_)).mono (fun b dI=>⟨?_,fun e=>?_,fun e=>?_⟩),fun ad e=>an (aef ad e) hkc.size⟩
   ·have eO:W.heap.size≤b:=dI.1
    rcases e with e|e
    ·omega
    have:=(hr.lt b e).2;omega
   ·have eO:W.heap.size≤b:=dI.1
    have:=hb.size;omega
   ·have eO:W.heap.size≤b:=dI.1
    rcases X7 b e with h|h
    ·have:=(hr.lt b h).2
     omega
    omega
   have eO:W.heap.size≤b:=dI.1;omega
  have HWA:=cD (cC vO hwf);have Cc:=cD (cC qG (cC O6 (cC hkeep hkn)));refine gv _ _ hbc ?_;clear gv;refine fK 3 rfl fun K' gv=>?_
  gi_wp2_with fail
  rw[←HWA.out.1];refine gv _ _ hba ?_;clear gv;refine fC 4 rfl fun K' gv=>?_
  refine mw (.tmp 11) (.tmp 14) 52 rfl v _ _ w6 rfl rfl UJ (gv _ _ ?_);clear gv;simp only[cR];refine fC 5 rfl fun K' gv=>?_
  gi_wp2_with fail
  rw[←HWA.out.2];refine fD ?_ cJ _;clear hc1 AY sN hr2 qg hgrow zu UJ hown' Kw hca vO hwf hrc hvc;by_cases h8:pre.length=7
  ·have t8:((pre.length:Int)+1==8)=true:=by rw[h8];rfl
   gi_wp2
   exact⟨Cc.out.2.2.1,rfl,by rw[bS];exact Cc.out.1,by rw[aE,h8];rfl⟩
  have t8:((pre.length:Int)+1==8)=false:=by simp;omega
  have hp8:=HF.out.2.2.2.2.2.1;gi_wp2
  exact⟨Cc.out.2.2.1,Cc.out.2.2.2,by rw[bS];exact Cc.out.1,by rw[aE,List.length_singleton];omega,aJ HF.out.2.2.2.2.2.2.1 Cc.out.2.1.size⟩
 case done=>
  rintro D ys W hD hys ⟨⟨v,C,h1,Cu,hr,hI,hb⟩,AW,Ia⟩ hK;have hc:=Cu.cell;have HF:=cD (cC h1 (cC hr (cC hI (cC hb (cC Cu hys)))));have YN:=cD AW;clear h1 hr hI hb hys AW;gi_wp2
  refine⟨by simp,.inl ⟨_,_,rfl,cm hK,?_⟩⟩;obtain⟨h1,hr,hI,hb,Cu,hys⟩:=HF.out;have hkD:cQ (·=D) W (W.putObj D (.deferred none)):=⟨rfl,rfl,rfl,by simp[bg],fun b _ hnb=>aB (fun e=>hnb e)⟩;have hP:(ij id hv I k).take 8=ys.map aj:=by
   rw[hys,xm,aG,aD,←HK.out,List.take_of_length_le];have:=YN.out;have e2:ys.length=(ij id hv I k).length:=by
    rw[hys,←bU (f:=aj),xm,aG,aD,←HK.out]
   omega
  rw[hP];exact⟨_,results_tmp rfl _ _ _,v,C,rfl,h1,aaf (hr.mono cK) _ hK rfl,fun i x c hx hc=>((hI i x c hx hc).1.kE hkD (fun b _ ⟨cs,t,fr,hc⟩ e=>by have e:b=D:=e;rw[e,hK] at hc;cases hc)).mono (fun b hb=>⟨hb.1,hb.2.1⟩),hb.trans (belowK_b (w:=w) (aC _) W D _ _ (by have:=nU.out.2.2.2.2.1;omega) hK rfl rfl)⟩
 rintro D c pre W hD ⟨rest,hpre⟩ ⟨rfl,⟨v,C,h1,Cu,hr,hI,hb⟩,AW⟩ hK;have hc:=Cu.cell;have HF:=cD (cC h1 (cC hr (cC hI (cC hb (cC Cu hpre)))));have YN:=cD AW;clear h1 hr hI hb hpre AW;gi_wp2
 refine⟨by simp,.inl ⟨_,_,rfl,cm hK,?_⟩⟩;obtain⟨h1,hr,hI,hb,Cu,hpre⟩:=HF.out;have hkD:cQ (·=D) W (W.putObj D (.deferred none)):=⟨rfl,rfl,rfl,by simp[bg],fun b _ hnb=>aB (fun e=>hnb e)⟩;have hP:(ij id hv I k).take 8=pre.map aj:=by
  have e2:ij id hv I k=pre.map aj++rest.map aj:=by
   rw[←bS,hpre,xm,aG,aD,←HK.out]
  rw[e2];exact List.take_left' (by rw[bU];exact YN.out)
 rw[hP];exact⟨_,results_tmp rfl _ _ _,v,C,rfl,h1,aaf (hr.mono cK) _ hK rfl,fun i x c hx hc=>((hI i x c hx hc).1.kE hkD (fun b _ ⟨cs,t,fr,hc⟩ e=>by have e:b=D:=e;rw[e,hK] at hc;cases hc)).mono (fun b hb=>⟨hb.1,hb.2.1⟩),hb.trans (belowK_b (w:=w) (aC _) W D _ _ (by have:=nU.out.2.2.2.2.1;omega) hK rfl rfl)⟩
attribute [local go_sem] Oper.semAt_some
theorem Ow(w:ag)(hv:Nat):aA prog 47 #[.n,.v hv] w (wK w []):=by
 refine(aU (n:=2)).1 ?_;refine callsIn_of_wp_marks func47 rfl trivial ?_ rfl;simp only[ntmps47,aV,aN,bq,bC,bB,aQ,aP,aW,aR,bh,aZ];gi_wp2_with fail
 refine⟨trivial,?_⟩;refine(aU.2 (M7 _ _ _ _ _ _)).mono ?_;rintro e w' ⟨rfl,rfl⟩;gi_wp2
 obtain⟨W0,Bb⟩:∃W0,((((w.alloc (.cells #[.v hv] 36)).alloc (.cells #[.n] 52)).alloc (.cells #[.n] 52)).alloc (.cells #[.func (.func 106) #[] #[.p w.heap.size]] 71))=W0:=⟨_,rfl⟩;have b1:=(((au w 36 (.v hv)).alloc (.cells #[.n] 52)).alloc (.cells #[.n] 52)).alloc (.cells #[.func (.func 106) #[] #[.p w.heap.size]] 71);have b2:=((au (w.alloc (.cells #[.v hv] 36)) 52 (.n)).alloc (.cells #[.n] 52)).alloc (.cells #[.func (.func 106) #[] #[.p w.heap.size]] 71);have b3:=(au ((w.alloc (.cells #[.v hv] 36)).alloc (.cells #[.n] 52)) 52 (.n)).alloc (.cells #[.func (.func 106) #[] #[.p w.heap.size]] 71);have b4:=au (((w.alloc (.cells #[.v hv] 36)).alloc (.cells #[.n] 52)).alloc (.cells #[.n] 52)) 71 (.func (.func 106) #[] #[.p w.heap.size]);rw[ah] at b2;rw[ah,ah] at b3;rw[ah,ah,ah] at b4;rw[Bb] at b1 b2 b3 b4⊢;have hs0:W0.heap.size=w.heap.size+4:=by rw[←Bb];simp
 have BZ:cE w W0:=by rw[←Bb];exact cT (cT (cT (cT (af _ w) _) _) _) _
 have nU:=cD (cC b1 (cC b2 (cC b3 (cC b4 (cC hs0 BZ)))));clear Bb b1 b2 b3 b4 hs0 BZ;refine wpIn_rangeFunc_ownH (α:={x:fW×ei // x∈([]:List (fW×ei))}) rfl cK (gf:=200) (lb:=#[.p (w.heap.size+1+1),.p (w.heap.size+1+1+1)]) rfl trivial (cq func200 cJ rfl)
  (encs:=fun x=>#[eW x.1.1 x.1.2]) (Kp:=KN (w.heap.size+4) (w.heap.size+1)) (S:=fun ys=>ys=([]:List {x:fW×ei // x∈([]:List (fW×ei))})) (Sp:=fun pre=>pre <+: ([]:List {x:fW×ei // x∈([]:List (fW×ei))})) (N:=1000001) (w0:=W0) ?seq
  (fun h k=>h.trans k) ?kb (af _ _) (fun _=>rfl)
  (fun pre W=>wJ w (w.heap.size+1) (pre.map aj) W∧pre.length<8∧w.heap.size+4≤W.heap.size) (fun c pre W=>c=.exit 0∧wJ w (w.heap.size+1) (pre.map aj) W∧pre.length=8)
  (fun s A B row hs hg hr=>⟨pq w _ _ (by have:=nU.out.2.2.2.2.1;omega) _ A B row hs.1 hg hr,hs.2.1,aJ hs.2.2 hg.size⟩)
  (fun c s A B row hs hg hr=>⟨hs.1,pq w _ _ (by have:=nU.out.2.2.2.2.1;omega) _ A B row hs.2.1 hg hr,hs.2.2⟩)
  ⟨Di nU.out.2.1 nU.out.2.2.2.2.2,by simp,by have:=nU.out.2.2.2.2.1;omega⟩
  (fun x a' W=>∃xb,w.heap.size+4≤xb∧W.heap[xb]?=some (.cells (cU x.1.1 x.1.2).toArray 40 (0,0))∧a'={tmps:=#[.n,.v hv,aI,.p w.heap.size,.n,.p (w.heap.size+1),.p xb,.n,.func (.func 106) #[] #[.p w.heap.size],.func (.func 200) #[] #[.p (w.heap.size+1+1),.p (w.heap.size+1+1+1)],eW x.1.1 x.1.2,aI,aI,aI,aI,aI,aI,aI,aI,aI],defers:=[]})
  (fun x a' s A B row hs hg hr=>?ax) ?assign ?body ?done ?stop
 case seq=>
  intro l J Jx W hW hJ hJx hY hJ0;obtain⟨b1,b2,b3,b4,hs0,BZ⟩:=nU.out;exact aa1 1 l (w.heap.size+1+1) 0 _ J Jx W ((hW.block _ cK).trans b3) hJ0
 case kb=>
  intro W l o o' hl ho hc hw;have hs0:=nU.out.2.2.2.2.1;exact⟨rfl,rfl,rfl,by simp[bg],fun b hb hnb=>aB (fun e=>hnb (.inr cK))⟩
 case ax=>exact absurd x.2 cM
 case assign=>
  rintro l pre ⟨x,hx⟩;cases hx
 case body=>
  rintro l pre ⟨x,hx⟩;cases hx
 case done=>
  rintro D ys W hD hys ⟨⟨v,C,h1,Cu,hr,hI,hb⟩,AW,Ia⟩ hK;have hc:=Cu.cell;have HF:=cD (cC h1 (cC hr (cC hI (cC hb (cC Cu hys)))));have YN:=cD AW;clear h1 hr hI hb hys AW;gi_wp2
  refine⟨by simp,.inl ⟨_,_,rfl,cm hK,?_⟩⟩;obtain⟨h1,hr,hI,hb,Cu,hys⟩:=HF.out;have hkD:cQ (·=D) W (W.putObj D (.deferred none)):=⟨rfl,rfl,rfl,by simp[bg],fun b _ hnb=>aB (fun e=>hnb e)⟩;have hP:([]:List (fW×ei))=ys.map aj:=by rw[hys];rfl
  rw[hP];exact⟨_,results_tmp rfl _ _ _,v,C,rfl,h1,aaf (hr.mono cK) _ hK rfl,fun i x c hx hc=>((hI i x c hx hc).1.kE hkD (fun b _ ⟨cs,t,fr,hc⟩ e=>by have e:b=D:=e;rw[e,hK] at hc;cases hc)).mono (fun b hb=>⟨hb.1,hb.2.1⟩),hb.trans (belowK_b (w:=w) (aC _) W D _ _ (by have:=nU.out.2.2.2.2.1;omega) hK rfl rfl)⟩
 rintro D c pre W hD ⟨rest,hpre⟩ ⟨rfl,_,AW⟩ hK;have:pre=[]:=List.append_eq_nil_iff.1 hpre |>.1;rw[this] at AW;cases AW
end
