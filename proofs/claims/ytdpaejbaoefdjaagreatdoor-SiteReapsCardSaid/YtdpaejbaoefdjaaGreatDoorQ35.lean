/- Part 35. -/
import Derived.Test.YtdpaejbaoefdjaaGreatDoorQ33
import Derived.StillTailTactics
open List renaming getElem?_eq_getElem → aa,getElem?_eq_some_iff → aq,length_attach → aD,length_append → aE,attach_map_subtype_val → aG,length_cons → aN,append_toArray → aR,size_toArray → aV,push_toArray → aW,cons_append → aZ,nil_append → bh,length_nil → bq,mem_of_getElem? → bu,getElem?_set_ne → bz,filter_append → bF,flatMap_cons → bH,getD → bM,map_append → bS,length_set → bT,length_map → bU,replicate → bY,getElem?_append_right → bZ,getElem?_append_left → cz,getElem?_set_self → aaa,contains_cons → aah
open Go.RowKit.Below renaming refl → af,heap_alloc → aY
open Go renaming World → ag,Value → ay,Calls → aA,Boxed → aH,undef → aI,wpAnyH_done → aL,cell_of_row → aM,heap_alloc_new → aO,callsIn_wide → aU,Addr → bG,TypeId → bN,run_takeDeferred → cm,lt_of_block → cA,loadVar → cC,ownsRow_putObj → aab
open Go.World renaming size_alloc → ah,putObj_heap_other → aB,rangeAt_setCells_same → aF,putObj → bg,cell? → bL,frozen? → cu,cell?_setCells_out → cw,block_lt_of_cell? → cB,ownsRow_nil → aag
open Subtype renaming val → aj
open Nat renaming lt_of_lt_of_le → an,le_refl → aC,le_trans → aJ,zero_add → aK,reduceSub → bB,reduceAdd → bC
open Go.Boxed renaming new → au
open Array renaming replicate_zero → aP,replicate_succ → aQ,getElem?_eq_getElem → cj
open Go.Value renaming oneCell' → aS,slice → aT
open Go.ChangeMaps renaming setBlock → aX
open Go.Result renaming andThen_ok → bA,andThen → bQ
open Go.Sem renaming run_pure → bJ,run_bind → bK
open Go.Instr renaming mapUpdate → bP,sureAddr → bW
open Go.Region renaming wanted → bX
open Go.Proofs renaming enters_of → cq
open Go.IntKind renaming wrap_u64 → aae
open Go.Fence renaming wide → aaf
namespace Go.Proofs.YtdpaejbaoefdjaaGreatDoor
open Go.Proofs.Tryz
set_option maxRecDepth 100000
set_option maxHeartbeats 64000000
set_option linter.unusedVariables false
set_option linter.unusedSimpArgs false
section
open Go.RowKit Go.MapKept Go.ChangeMaps
open Go.Maps (Keyed)
def wh(s n:Int)(g:List (Int×Int))(m:Int):Bool:=decide (0<m)&&decide (m≤n)&&!(g.contains (s,m))
section
variable{w:World}{b mb:Nat}{s n:Int}{g:List (Int×Int)}
theorem iM.lt(h:iM w b mb s n g):b<w.heap.size:=cA h.blk
theorem iM.ne(h:iM w b mb s n g):b≠mb:=by
 intro e;obtain⟨es,c,hb,_⟩:=h.mp;rw[←e,h.blk] at hb;cases hb
theorem iM.c0(h:iM w b mb s n g):w.cell? ⟨b,0,none⟩=some (.i s):=by simp[bL,h.blk]
theorem iM.c1(h:iM w b mb s n g):w.cell? ⟨b,1,none⟩=some (.u n):=by simp[bL,h.blk]
theorem iM.c2(h:iM w b mb s n g):w.cell? ⟨b,2,none⟩=some (.map (some mb)):=by simp[bL,h.blk]
theorem iM.f1(h:iM w b mb s n g):w.frozen? ⟨b,1,none⟩=false:=by simp[cu,h.blk]
theorem iM.kept(h:iM w b mb s n g){S:Nat→Prop}{w':ag}(hk:Kept S w w')(h1:¬S b)(h2:¬S mb):iM w' b mb s n g:=
 ⟨hk.same h.blk h1,h.mp.kept hk h2⟩
theorem EL{a:Int×Int}:∀{g:List (Int×Int)},((dF a (g.map (·,true))).map Value.bool).getD (.F)=.bool (g.contains a)
 |[]=>by simp[dF]
 |p::r=>by
  simp only[List.map_cons,dF];by_cases h:p=a
  ·simp[h]
  ·simp only[if_neg h,aah]
   rw[EL];have:(a==p)=false:=by simpa using fun e=>h e.symm
   simp[this]
theorem iM.look(h:iM w b mb s n g){x y:Int}(h1:mW x)(h2:zL y):
  (Instr.lookup 196 (.map (some mb)) (.agg #[.i x,.u y]) false).run prog w=.ok (.bool (g.contains (x,y))) w:=by
 obtain⟨l,hl⟩:=SE (p:=(x,y)) h1 h2;have:=h.mp.lookup Ze SF underlying196 (aaS w) hl;rw[EL] at this;exact this
end
theorem BC(b mb:Nat)(s n m:Int)(g:List (Int×Int))(w:ag)(h:iM w b mb s n g)(hs:mW s)(hm:zL m):
  aA prog 246 #[.p b,.u m] w fun e w'=>e=.returned (.bool (wh s n g m))∧∃k,w'=w.drewN k:=by
 have h0:=h.c0;have h1:=h.c1;have h2:=h.c2;have hrun:=fun k=>(h.kept (S:=Aw) ((Kept.refl _ w).drewN k) (fun e=>e) (fun e=>e)).look hs hm
 have Ac:(decide (0<m)=false∨decide (m≤n)=false)→wh s n g m=false:=by
  rintro(e|e)<;>simp[wh,e]
 have N7:decide (0<m)=true→decide (m≤n)=true→wh s n g m=!(g.contains (s,m)):=by
  intro e1 e2;simp[wh,e1,e2]
 clear h;generalize hc:g.contains (s,m)=c at hrun N7;clear hc;generalize hL:wh s n g m=L at Ac N7⊢;clear hL;have HF:=cE Ac;have HF2:=cE N7;clear Ac N7;by_cases hp:0<m
 ·have hp':decide ((0:Int)<m)=true:=by simpa using hp
  by_cases hq:m≤n
  ·have hq':decide (m≤n)=true:=by simpa using hq
   clear hp hq;go_enter func246,ntmps246
   go_wp2
   go_quiet (fail)
   go_wp2
   go_ret
   exact⟨by rw[HF2.out hp' hq'];rfl,_,rfl⟩
  have hq':decide (m≤n)=false:=by simpa using hq
  clear hp hq;go_enter func246,ntmps246
  go_wp2
  go_quiet (fail)
  go_wp2
  go_ret
  exact⟨by rw[HF.out (.inr hq')];rfl,_,rfl⟩
 have hp':decide ((0:Int)<m)=false:=by simpa using hp
 clear hp;go_enter func246,ntmps246
 go_wp2
 go_quiet (fail)
 go_wp2
 go_ret
 exact⟨by rw[HF.out (.inl hp')];rfl,_,rfl⟩
theorem BV(b mb:Nat)(s n:Int)(g:List (Int×Int))(x y:Int)(w:ag)(h:iM w b mb s n g)(h1:mW x)(h2:zL y):
  aA prog 113 #[.p b,.agg #[.i x,.u y]] w fun e w'=>e=.returned (.bool (g.contains (x,y)))∧Kept Aw w w':=by
 have h3:=h.c2;have hlt:=h.lt;have hrun:=fun(o:Obj) k=>(h.kept (S:=Aw) (((Kept.refl _ w).alloc o).drewN k) (fun e=>e) (fun e=>e)).look h1 h2
 clear h h1 h2;generalize g.contains (x,y)=c at hrun⊢;go_enter func113,ntmps113
 go_wp2
 go_quiet (fail)
 go_wp2
 go_ret
 exact⟨rfl,((Kept.refl _ w).alloc _).drewN _⟩
theorem Xp(s:Int)(w:ag):
  aA prog 43 #[.i s] w fun e w'=>e=.returned (.p (w.heap.size+1))∧w'=(w.alloc (.map #[] 0)).alloc (.cells #[.i s,.U,.map (some w.heap.size)] 198):=by
 have hmm:=@run_makeMap prog;go_enter func43,ntmps43
 go_wp2
 go_ret
 exact⟨rfl,rfl⟩
def yJ(a:Int×Int)(g:List (Int×Int)):List (Int×Int):=if g.contains a then g else g++[a]
theorem DR(a:Int×Int):∀g:List (Int×Int),iH a true (g.map (·,true))=(yJ a g).map (·,true)
 |[]=>by simp[iH,yJ]
 |p::r=>by
  simp only[List.map_cons,iH];by_cases h:p=a
  ·simp[h,yJ]
  ·have h':(a==p)=false:=by simpa using fun e=>h e.symm
   simp only[if_neg h];rw[DR a r];simp only[yJ,aah,h',Bool.false_or];split<;>simp
section
variable{w:World}{b mb:Nat}{s n:Int}{g:List (Int×Int)}
theorem iM.store(h:iM w b mb s n g){x y:Int}(h1:mW x)(h2:zL y):
  ∃o,∀w':ag,w'.heap[b]?=w.heap[b]?→w'.heap[mb]?=w.heap[mb]?→(bP 196 (.map (some mb)) (.agg #[.i x,.u y]) (.T)).run prog w'=.ok () (aX w' mb o)∧
   iM (aX w' mb o) b mb s n (yJ (x,y) g)∧Kept (·=mb) w' (aX w' mb o):=by
 obtain⟨l,hl⟩:=SE (p:=(x,y)) h1 h2;obtain⟨o,ho⟩:=h.mp.update Ze SF underlying196 true hl;refine⟨o,fun w' hb hmb=>?_⟩;obtain⟨h3,h4⟩:=ho w' hmb;have hlt:mb<w'.heap.size:=by
  obtain⟨es,c,h5,_⟩:=h.mp;exact cA (hmb.trans h5)
 have hk:=jC hlt o;refine⟨h3,⟨hk.same (hb.trans h.blk) h.ne,?_⟩,hk⟩;rw[←DR];exact h4
end
theorem U9(b mb:Nat)(s n m:Int)(g:List (Int×Int))(w:ag)(h:iM w b mb s n g)(hs:mW s)(hm:zL m)(hl:wh s n g m=false):
  aA prog 244 #[.p b,.u m] w fun e w'=>e=.returned (.i 63)∧∃k,w'=w.drewN k:=by
 go_enter func244,ntmps244
 go_wp2_with fail
 refine(BC b mb s n m g w h hs hm).mono ?_;rintro e w' ⟨rfl,k,rfl⟩;rw[hl];go_wp2
 go_ret
 exact⟨rfl,_,rfl⟩
theorem Rn(b mb:Nat)(s n m:Int)(g:List (Int×Int))(w:ag)(h:iM w b mb s n g)(hs:mW s)(hm:zL m)(hl:wh s n g m=true):
  aA prog 244 #[.p b,.u m] w fun e w'=>e=.returned (.I)∧iM w' b mb s n (yJ (s,m) g)∧Kept (·=mb) w w':=by
 obtain⟨o,ho⟩:=h.store hs hm;have ho2:∀k,(bP 196 (.map (some mb)) (.agg #[.i s,.u m]) (.T)).run prog (w.drewN k)=.ok () (aX (w.drewN k) mb o):=fun k=>(ho (w.drewN k) rfl rfl).1
 have ho3:∀k,iM (aX (w.drewN k) mb o) b mb s n (yJ (s,m) g)∧Kept (·=mb) (w.drewN k) (aX (w.drewN k) mb o):=fun k=>(ho (w.drewN k) rfl rfl).2
 have H3:=cE ho3;have h0:=h.c0;have h2:=h.c2;have HL:=BC b mb s n m g w h hs hm;rw[hl] at HL;have HL':=cE HL;clear ho ho3 h hl HL;go_enter func244,ntmps244
 go_wp2_with fail
 refine HL'.out.mono ?_;rintro e w' ⟨rfl,k,rfl⟩;go_wp2
 go_region
 all_goals
  go_wp2
  go_ret
  obtain⟨g1,g2⟩:=H3.out (k+1);exact⟨rfl,g1,(((Kept.refl _ w).drewN _).trans g2)⟩
theorem Qm(b mb:Nat)(s n:Int)(g:List (Int×Int))(x y:Int)(w:ag)(h:iM w b mb s n g)(h1:mW x)(h2:zL y)(hx:x≠s)(hy:0<y):
  aA prog 250 #[.p b,.agg #[.i x,.u y]] w fun e w'=>e=.returned (.tuple #[])∧iM w' b mb s n (yJ (x,y) g)∧Kept (·=mb) w w':=by
 obtain⟨o,ho⟩:=h.store h1 h2;have hlt:=h.lt;have afT:=h.mp.lt;have ho2:∀(u:Obj) k,(bP 196 (.map (some mb)) (.agg #[.i x,.u y]) (.T)).run prog ((w.alloc u).drewN k)=.ok () (aX ((w.alloc u).drewN k) mb o):=
  fun u k=>(ho ((w.alloc u).drewN k) (aY _ _ _ hlt) (aY _ _ _ afT)).1
 have ho3:∀(u:Obj) k,iM (aX ((w.alloc u).drewN k) mb o) b mb s n (yJ (x,y) g)∧Kept (·=mb) ((w.alloc u).drewN k) (aX ((w.alloc u).drewN k) mb o):=
  fun u k=>(ho ((w.alloc u).drewN k) (aY _ _ _ hlt) (aY _ _ _ afT)).2
 have H3:=cE ho3;have h0:=h.c0;have h2':=h.c2;have hd:(x != s)=true:=by simpa using hx
 have uY:decide (0<y)=true:=by simpa using hy
 clear ho ho3 h hx hy h1 h2;go_enter func250,ntmps250
 go_wp2
 go_quiet (fail)
 go_wp2
 go_region
 all_goals
  go_wp2
  go_end0
  obtain⟨g1,g2⟩:=H3.out _ (nq+1);exact⟨rfl,g1,((((Kept.refl _ w).alloc _).drewN _).trans g2)⟩
theorem PF(b mb:Nat)(s n:Int)(g:List (Int×Int))(w:ag)(h:iM w b mb s n g)(hn:32≤n):
  aA prog 242 #[.p b] w fun e w'=>e=.returned (.tuple #[.U,.i 4])∧w'=w:=by
 have h1:=h.c1;clear h;go_enter func242,ntmps242
 go_wp2
 go_ret2
 exact⟨rfl,rfl⟩
theorem Xf(b mb:Nat)(s n:Int)(g:List (Int×Int))(w:ag)(h:iM w b mb s n g)(hn:n<32)(h0:0≤n):
  aA prog 242 #[.p b] w fun e w'=>e=.returned (.tuple #[.u (n+1),.I])∧iM w' b mb s (n+1) g∧Kept (·=b) w w':=by
 have h1:=h.c1;have hf:=h.f1;have hb:(w.setCell ⟨b,1,none⟩ (.u (n+1))).heap[b]?=some (.cells #[.i s,.u (n+1),.map (some mb)] 198 (0,0)):=by
  have hlt:=h.lt;have h':w.heap[b]=.cells #[.i s,.u n,.map (some mb)] 198 (0,0):=by simpa [cj hlt] using h.blk
  show(w.heap.modify b _)[b]?=_;rw[cj (by simpa using hlt),Array.getElem_modify_self,h'];rfl
 have hk:Kept (·=b) w (w.setCell ⟨b,1,none⟩ (.u (n+1))):=(Kept.refl (·=b) w).setCell (p:=⟨b,1,none⟩) rfl _;have hT:=cE (show iM (w.setCell ⟨b,1,none⟩ (.u (n+1))) b mb s (n+1) g∧Kept (·=b) w (w.setCell ⟨b,1,none⟩ (.u (n+1))) from⟨⟨hb,h.mp.kept hk (fun e=>h.ne e.symm)⟩,hk⟩);clear hb hk h;go_enter func242,ntmps242
 go_wp2
 go_ret2
 exact⟨rfl,hT.out⟩
end
structure jw where
 ep:Nat
 fr:List Nat
 held:Bool
 out:Bool
 deriving DecidableEq
def iL:jw:=⟨0,[],false,false⟩
structure cS where
 site:Nat
 dH:List cP
 trees:List (Int×List (cP×Nd))
 toks:List jw
 last:Nat
 gone:List (Int×Int)
 v:List Nat
 own:List gK
structure jt where
 e:Int
 a:JY
 r:List xI
 i:gK
def nX(e:Int):jt:=⟨e,l5,[],ko⟩
def cS.new(site sites:Nat)(dH:List cP):cS:=⟨site,dH,dH.map (fun r=>(0,[(r,iN)])),dH.map (fun _=>iL),0,[],bY sites 0,[]⟩
namespace cS
variable(m:cS)
def at_(r:Nat):Int:=(m.trees.getD r (0,[])).1
def nodes(r:Nat):List (cP×Nd):=(m.trees.getD r (0,[])).2
def root(r:Nat):cP:=m.dH.getD r []
def tok(r:Nat):jw:=m.toks.getD r iL
def dV(r:Nat)(t:Int×List (cP×Nd)):cS:={m with trees:=m.trees.set r t}
def oH(r:Nat)(t:jw):cS:={m with toks:=m.toks.set r t}
def live(n:Nat):Bool:=wh m.site m.last m.gone n
def item(x:gK):gK:={x with ew:=m.site,seq:=m.v.getD m.site 0+1,stamp:=m.v}
def make(x:gK):cS:={m with own:=m.own++[m.item x],v:=lE m.v m.site}
def opens:cS×jt:=if 32≤m.last then (m,nX 4) else ({m with last:=m.last+1},⟨0,⟨Lib.decDigits (m.last+1),iN,[]⟩,[],ko⟩)
def qD(n:Nat):gK:=⟨0,0,-1,0,[],[],n⟩
def jq(p:Int×Int):cS:={m with gone:=yJ p m.gone}
def kM(y:fR):cS×jt:=if y.os≠m.site∨m.live y.on=false then (m,nX 63) else ((m.jq (m.site,y.on)).make (qD y.on),⟨0,l5,[],m.item (qD y.on)⟩)
def oS(r:Nat)(X:List gh):gK:=⟨0,0,r,(m.tok r).ep,[],X,0⟩
def xl(r:Nat)(o:kV)(who:dW):List gh:=zC (m.root r) (m.nodes r) (m.at_ r) who 0 o
def oT(r:Nat)(o:kV)(who:dW):cS:=if m.xl r o who=[] then m else (m.dV r (m.at_ r+1,Mt (m.root r) (m.nodes r) (m.at_ r) who 0 o)).make (m.oS r (m.xl r o who))
def Gw(r:Nat)(o:kV)(who:dW):gK:=if m.xl r o who=[] then ko else m.item (m.oS r (m.xl r o who))
def asked(r:Nat)(o:kV)(who:dW):cS×jt:=
 if (m.tok r).held=false then (m,nX 61)
 else (m.oT r o who,⟨Au (m.root r) (m.nodes r) (m.at_ r) who 0 o,Ri (m.root r) (m.nodes r) (m.at_ r) who 0 o,Rg (m.root r) (m.nodes r) (m.at_ r) who 0 o,m.Gw r o who⟩)
def uP(y:fR):Int:=gz y.op.kind y.op.data.length (y.parts.map fun p=>⟨p.kind,p.data.length,0⟩)
def write(y:fR):cS×jt:=
 if uP y≠0 then (m,nX (uP y))
 else if ia y.os y.on=false∧(y.os≠m.site∨m.live y.on=false) then (m,nX 63)
 else if (oU m.dH y.op.path (y.parts.map (·.path))).2≠0 then (m,nX (oU m.dH y.op.path (y.parts.map (·.path))).2)
 else m.asked (oU m.dH y.op.path (y.parts.map (·.path))).1.toNat ⟨y.op,y.parts⟩ ⟨y.os,y.on⟩
def oM(x:gK)(sites dH:Nat):Bool:=
 decide (0≤x.ew)&&decide (x.ew<sites)&&decide (1≤x.seq)&&decide (x.stamp.length=sites)&&decide (x.stamp.getD x.ew.toNat 0=x.seq - 1)&&
  ((decide (0≤x.dK)&&decide (x.dK<dH)&&decide (0<x.ep)&&decide (x.cl=0)&&decide (x.dB≠[])) != (decide (x.dK=-1)&&decide (x.ep=0)&&decide (0<x.cl)&&decide (x.dB=[])))
def ready(x:gK)(v:List Nat):Bool:=decide (0≤x.ew)&&decide (x.ew<v.length)&&decide (0<x.seq)&&decide (x.seq - 1=v.getD x.ew.toNat 0)&&gq x.stamp v
def takes(x:gK):Bool:=oM x m.v.length m.dH.length&&!decide (x.ew=m.site)&&ready x m.v&&(decide (0<x.cl)||decide ((dM (m.root x.dK.toNat) (m.nodes x.dK.toNat) x.dB).1=0))
def DH(x:gK):cS:=
 let m1:=if 0<x.cl then m.jq (x.ew,x.cl) else m.dV x.dK.toNat (m.at_ x.dK.toNat+1,(dM (m.root x.dK.toNat) (m.nodes x.dK.toNat) x.dB).2)
 {m1 with v:=lE m.v x.ew.toNat}
def take(x:gK):cS×jt:=if m.takes x=false then (m,nX 62) else (m.DH x,⟨0,l5,[],x⟩)
def out(r:Int)(n:Nat):Prop:=r<0∨(n:Int)≤r
instance(r:Int)(n:Nat):Decidable (out r n):=by unfold out;infer_instance
def VZ(y:fR):cS×jt:=
 if out y.dK m.dH.length then (m,nX 1)
 else if (m.tok y.dK.toNat).held=true∨y.ep≤(m.tok y.dK.toNat).ep then (m,nX 61)
 else if gq y.fr m.v=false then (m,nX 62)
 else (m.oH y.dK.toNat ⟨y.ep,y.fr,true,false⟩,nX 0)
def CU(y:fR):cS×jt:=
 if out y.dK m.dH.length then (m,nX 1)
 else if (m.tok y.dK.toNat).held=false∨(m.tok y.dK.toNat).ep≠y.ep then (m,nX 61)
 else (m.oH y.dK.toNat ⟨y.ep,m.v,false,true⟩,nX 0)
def left(r:Nat):List cP:=(gU (m.nodes r)).filter fun p=>m.gone.contains (((dF p (m.nodes r)).getD iN).num.os,((dF p (m.nodes r)).getD iN).num.on)
def tG(r:Nat):kV:=⟨⟨7,[],[],0,false,false⟩,((m.left r).take 6).map fun p=>⟨2,p,[],-1,false,false⟩⟩
def qM(r:Int):cS×jt:=
 if out r m.dH.length then (m,nX 60)
 else if (m.tok r.toNat).held=false then (m,nX 61)
 else if m.left r.toNat=[] then (m,nX 0)
 else (m.oT r.toNat (m.tG r.toNat) ⟨0,0⟩,⟨0,l5,[],m.Gw r.toNat (m.tG r.toNat) ⟨0,0⟩⟩)
def apply(y:fR):cS×jt:=
 match y.kind with
 |1=>m.write y
 |2=>m.opens
 |3=>m.kM y
 |4=>m.take y.dY
 |5=>m.VZ y
 |6=>m.CU y
 |7=>m.qM y.dK
 |_=>(m,nX 1)
def done(x:iS):cS×jt:=if FD x=0 then m.apply (ey (vR x)) else (m,nX 2)
end cS
section
open Go.RowKit Go.Shelf Go.MapKept Go.ChangeMaps
def iz(t:jw)(a:Option bG)(c:Nat):List ay:=[.v (t.ep:Int),.slice a t.fr.length c,.bool t.held,.bool t.out]
def Qt(x:ay):Prop:=(∀n,x≠.b n)∧∀s,x≠.string s
def J1:ay→Bool
 |.b _=>false
 |.string _=>false
 |_=>true
theorem aev{x:ay}(h:J1 x=true):Qt x:=⟨fun n e=>(by rw[e] at h;cases h),fun s e=>(by rw[e] at h;cases h)⟩
theorem rS{w:ag}{b:Nat}{cs:Array ay}{t:bN}{fr:Nat×Nat}(h:w.heap[b]?=some (.cells cs t fr))(hq:cs.toList.all J1=true):∀o v,w.cell? ⟨b,o,none⟩=some v→Qt v:=fun o v hv=>by
 rw[aM w b o cs t fr h] at hv;exact aev (List.all_eq_true.1 hq v (by simpa using Array.mem_of_getElem? hv))
structure jr(w:ag)(kb:Nat)(lo:Nat→Prop)(T:List jw):Prop where
 le:T.length≤4
 c0:w.cell? ⟨kb,0,none⟩=some (.i T.length)
 th:w.there kb 0 17
 row:∀(r:Nat) t,T[r]?=some t→∃a c,w.rangeAt kb (1+r*4) (iz t a c)∧dr w lo a t.fr
 q:∀o v,w.cell? ⟨kb,o,none⟩=some v→Qt v
def qL(T:List jw)(r:Int):jw:=if 0≤r∧r<T.length then T.getD r.toNat iL else iL
theorem UO(w:ag)(a:bG):(binOp .eql 101 (.pointer (some a)) (.pointer none)).run prog w=.ok (.F) w:=by kernel_rfl
section
variable{w:World}{kb:Nat}{lo:Nat→Prop}{T:List jw}
theorem jr.lt(h:jr w kb lo T):kb<w.heap.size:=cB _ _ h.c0
theorem jr.kept(h:jr w kb lo T){Z:Nat→Prop}{w':ag}(hk:Kept Z w w')(h1:¬Z kb)(h2:∀b,lo b→¬Z b):jr w' kb lo T:=
 ⟨h.le,(hk.cell (p:=⟨kb,0,none⟩) h.lt h1).trans h.c0,fun j hj=>by
  obtain⟨e1,e2⟩:=h.th j hj;exact⟨by rw[hk.cell (p:=⟨kb,0+j,none⟩) h.lt h1];exact e1,(hk.frozen (p:=⟨kb,0+j,none⟩) h.lt h1).trans e2⟩,fun r t ht=>by
  obtain⟨a,c,e1,e2⟩:=h.row r t ht;exact⟨a,c,fun j u hu=>(hk.cell (p:=⟨kb,1+r*4+j,none⟩) h.lt h1).trans (e1 j u hu),e2.kept hk (fun b hb _=>h2 b hb)⟩,fun o v hv=>h.q o v ((hk.cell (p:=⟨kb,o,none⟩) h.lt h1).symm.trans hv)⟩
end
theorem Fq(w:ag)(kb n r:Nat)(g:FuncId)(cp:Array ay)(BO:∀args w,(callFunc g args).run prog w=.ok (.enter g args) w)
  (hc:w.cell? ⟨kb,0,none⟩=some (.i n)) (hr:r<n) (hn:n≤4) (Q:ay→ag→Prop) (A:Array ay) (hA:#[.pointer (some ⟨kb,1+r*4,none⟩)]++cp=A) (hQ:aA prog g A w fun e w'=>∃v,e=.returned v∧Q v w'):
  aA prog 167 #[.p kb,.i r,.func (.func g) #[] cp] w fun e w'=>∃v,e=.returned v∧Q v w':=by
 have q:=fun w=>UO w ⟨kb,0,none⟩
 have h1:decide ((r:Int)<0)=false:=by simp
 have h2:decide (n≤r)=false:=by simp;omega
 have h3:(r:Int)<4:=by omega
 subst hA;have HQ:=cE hQ;clear hQ;go_enter func167,ntmps167
 go_wp2
 refine HQ.out.mono ?_;rintro e w' ⟨v,rfl,hv⟩;have HV:=cE hv;clear hv;go_wp2
 go_ret
 exact⟨_,rfl,HV.out⟩
theorem AD(w:ag)(kb n:Nat)(r:Int)(v:ay)(hc:w.cell? ⟨kb,0,none⟩=some (.i n))(hr:cS.out r n):
  aA prog 167 #[.p kb,.i r,v] w fun e w'=>e=.returned (.i 1)∧w'=w:=by
 have q:=fun w=>UO w ⟨kb,0,none⟩
 unfold cS.out at hr;by_cases h0:r<0
 ·have h1:decide (r<0)=true:=by simp;omega
  go_enter func167,ntmps167
  go_wp2
  go_ret
  exact⟨rfl,rfl⟩
 have h1:decide (r<0)=false:=by simp;omega
 have h2:decide ((n:Int)≤r)=true:=by simp;omega
 go_enter func167,ntmps167
 go_wp2
 go_ret
 exact⟨rfl,rfl⟩
theorem Q9:∀args w,(callFunc 168 args).run prog w=.ok (.enter 168 args) w:=cq func168 cK rfl
theorem Yv:∀args w,(callFunc 289 args).run prog w=.ok (.enter 289 args) w:=cq func289 cK rfl
theorem UR:∀args w,(callFunc 290 args).run prog w=.ok (.enter 290 args) w:=cq func290 cK rfl
def xy(w:ag)(pe pf ep:Nat)(hd:Bool)(v:ay)(w':ag):Prop:=
 Kept (fun b=>b=pe∨b=pf) w w'∧aH w' pe 36 (.v ((if hd then ep else 0:Nat):Int))∧aH w' pf 4 (.bool hd)
theorem QL(w:ag)(kb o pe pf:Nat)(ep:Nat)(hd:Bool)(x0:w.cell? ⟨kb,o,none⟩=some (.v ep))(x2:w.cell? ⟨kb,o+2,none⟩=some (.bool hd))
  (E1:aH w pe 36 (.V)) (E2:aH w pf 4 (.F)) (hk:pe≠pf):
  aA prog 168 #[.pointer (some ⟨kb,o,none⟩),.p pe,.p pf] w fun e w'=>∃v,e=.returned v∧xy w pe pf ep hd v w':=by
 have a1:=E1.cell;have a2:=E1.frozen;cases hd with
 |false=>
  have H:=cE (show∀v,xy w pe pf ep false v w from fun v=>⟨Kept.refl _ _,E1,E2⟩);clear E1 E2;go_enter func168,ntmps168
  go_wp2
  go_ret
  exact⟨_,rfl,H.out _⟩
 |true=>
 have c1:=E1.set (.v ep);have c2:=E2.other (B':=pe) (fun e=>hk e.symm) (.v ep);have b1:=c2.cell;have b2:=c2.frozen;have H:=cE (show∀v,xy w pe pf ep true v ((w.setCell ⟨pe,0,none⟩ (.v ep)).setCell ⟨pf,0,none⟩ (.T)) from fun v=>⟨((Kept.refl _ w).setCell (S:=fun b=>b=pe∨b=pf) (p:=⟨pe,0,none⟩) (.inl rfl) _).setCell (p:=⟨pf,0,none⟩) (.inr rfl) _,c1.other hk _,c2.set _⟩);clear E1 E2 c1 c2;go_enter func168,ntmps168
 go_wp2
 go_ret
 exact⟨_,rfl,H.out _⟩
theorem zW{fn:Func}{p q:Tmp}{ty ty2:bN}(h:fn.results=#[.cell p ty,.cell q ty2])(tmps:Array ay)(P:Program)(w:ag):
  (results fn tmps).run P w=((asAddr (tmps.getD p aI)).run P w).andThen fun a w₁=>((cC ty a).run P w₁).andThen fun x w₂=>((asAddr (tmps.getD q aI)).run P w₂).andThen fun a2 w₃=>((cC ty2 a2).run P w₃).andThen fun y w₄=>.ok (.tuple #[x,y]) w₄:=by
 simp only[results,h];simp[bK,bQ]
theorem A9{P:Program}{fn:Func}{p q:Tmp}{ty ty2:bN}(h:fn.results=#[.cell p ty,.cell q ty2])(tmps:Array ay)(w:ag)(b b2:Nat)(x y:ay)
  (hp:tmps.getD p aI=.p b) (hq:tmps.getD q aI=.p b2) (h1:(cC ty ⟨b,0,none⟩).run P w=.ok x w) (h2:(cC ty2 ⟨b2,0,none⟩).run P w=.ok y w):
  (results fn tmps).run P w=.ok (.tuple #[x,y]) w:=by
 rw[zW h,hp,hq];simp[asAddr,h1,h2,bQ]
theorem Cs{W:ag}{B:Nat}{t:bN}{v:ay}(h:aH W B t v):aH W.drew B t v:=h
theorem TC{w:ag}{b:Nat}{x:ay}(h:w.cell? ⟨b,0,none⟩=some x):(cC 36 ⟨b,0,none⟩).run prog w=.ok x w:=by
 go_simp
theorem sJ{w:ag}{b:Nat}{x:ay}(h:w.cell? ⟨b,0,none⟩=some x):(cC 4 ⟨b,0,none⟩).run prog w=.ok x w:=by
 go_simp
theorem BP(w:ag)(kb:Nat)(lo:Nat→Prop)(T:List jw)(h:jr w kb lo T)(r:Int):
  aA prog 65 #[.p kb,.i r] w fun e w'=>e=.returned (.tuple #[.v ((if (qL T r).held then (qL T r).ep else 0:Nat):Int),.bool (qL T r).held])∧cF w w':=by
 obtain⟨w1,hw1⟩:=cG (w.alloc (.cells #[.V] 36));obtain⟨w2,eS⟩:=cG (w1.alloc (.cells #[.F] 4));have E1:aH w2 w.heap.size 36 (.V):=by rw[eS,hw1];exact(au w _ _).alloc _
 have hs1:w1.heap.size=w.heap.size+1:=by rw[hw1];exact ah _ _
 have E2:aH w2 w1.heap.size 4 (.F):=by rw[eS];exact au w1 _ _
 have dz:cF w w2:=by rw[eS,hw1];exact cR (cR (af _ _) _) _
 have hT:=h.kept (dm (S:=fun _=>False) dz) (fun e=>e) (fun _ _ e=>e);have Kg:Hid (aA prog 167 #[.p kb,.i r,.func (.func 168) #[] #[.p w.heap.size,.p w1.heap.size]] w2 fun e w'=>∃v,e=.returned v∧xy w2 w.heap.size w1.heap.size (qL T r).ep (qL T r).held v w'):=cE (by
  by_cases hr:0≤r∧r<T.length
  ·obtain⟨n,rfl⟩:∃n:Nat,r=n:=⟨r.toNat,by omega⟩
   have hn:n<T.length:=by omega
   obtain⟨a,c,e1,_⟩:=hT.row n _ (aa hn);have hg:qL T n=T[n]:=by unfold qL;rw[if_pos hr];simp[bM,aa hn]
   rw[hg];exact Fq w2 kb T.length n 168 _ Q9 hT.c0 hn hT.le _ _ cN (QL w2 kb (1+n*4) _ _ _ _ (e1 0 _ rfl) (e1 2 _ rfl) E1 E2 cL)
  have hg:qL T r=iL:=by unfold qL;rw[if_neg hr]
  rw[hg];refine(AD w2 kb T.length r _ hT.c0 (by unfold cS.out;omega)).mono ?_;rintro e w' ⟨rfl,rfl⟩;exact⟨_,rfl,Kept.refl _ _,E1,E2⟩)
 have HW:=cE (cD hw1 (cD eS (cD dz hs1)));generalize qL T r=t at Kg⊢;unfold xy at Kg;generalize (if t.held=true then t.ep else 0)=x at Kg⊢;generalize t.held=hd at Kg⊢;clear h hT hw1 eS E1 E2 hs1 dz;obtain⟨pe,hpe⟩:=cG w.heap.size;obtain⟨pf,hpf⟩:=cG w1.heap.size;rw[←hpe,←hpf] at Kg;have JT:=cE (cD hpe hpf);have hne:pe≠pf:=by rw[hpe,hpf,HW.out.2.2.2];omega
 clear hpe hpf;go_enter func65,ntmps65
 go_wp2_with (first|(rw[←HW.out.2.1,←JT.out.2])|(rw[←HW.out.1,←JT.out.1]))
 refine Kg.out.mono ?_;rintro e w3 ⟨v,rfl,hk,c1,c2⟩;have HK:=cE hk;have HC1:=cE c1;have HC2:=cE c2;have a1:=c1.cell;have a2:=c1.frozen;have a3:=c2.cell;have a4:=c2.frozen;clear hk c1 c2;go_wp2
 go_region
 have k1:=((HC1.out.set (.v (x:Int))).other hne (.bool hd));have k2:=((HC2.out.other (B':=pe) (fun e=>hne e.symm) (.v (x:Int))).set (.bool hd));have kk:=(((Kept.refl (fun b=>b=pe∨b=pf) w3).setCell (p:=⟨pe,0,none⟩) (.inl rfl) (.v (x:Int))).setCell (p:=⟨pf,0,none⟩) (.inr rfl) (.bool hd)).drew;have m1:=Cs k1;have m2:=Cs k2;have KK:=cE (cD kk (cD m1.cell m2.cell));clear k1 k2 kk m1 m2 a1 a2 a3 a4;go_wp2
 refine bodyPost_ret (A9 rfl _ _ pe pf _ _ rfl rfl (TC KK.out.2.1) (sJ KK.out.2.2)) rfl ?_;obtain⟨h1,h2,h3,h4⟩:=HW.out;exact⟨rfl,h3.trans ((HK.out.trans KK.out.1).below h3.size (fun b e=>by have:=JT.out;have e:b=pe∨b=pf:=e;omega))⟩
theorem jr.mono{w:ag}{kb:Nat}{lo lo':Nat→Prop}{T:List jw}(h:jr w kb lo T)(hl:∀b,lo b→lo' b):jr w kb lo' T:=
 ⟨h.le,h.c0,h.th,fun r t ht=>by
  obtain⟨a,c,e1,e2⟩:=h.row r t ht;exact⟨a,c,e1,e2.mono (fun b _ hb=>hl b hb)⟩,h.q⟩
theorem jr.set{w:ag}{kb:Nat}{lo:Nat→Prop}{T:List jw}(h:jr w kb lo T){r:Nat}(hr:r<T.length)(hlo:¬lo kb)(t:jw)(a:Option bG)(c:Nat)(hst:dr w lo a t.fr):
  jr (w.setCells kb (1+r*4) (iz t a c)) kb lo (T.set r t):=by
 have hle:=h.le;have J6:(iz t a c).length=4:=rfl;have hk:=ic w kb (1+r*4) (iz t a c);have p9:w.there kb (1+r*4) (iz t a c).length:=fun j hj=>by
  have:=h.th (1+r*4+j) (by rw[J6] at hj;omega)
  rwa [aK] at this
 refine⟨by rw[bT];exact hle,?_,World.there_setCells h.th _ _ _,fun r' t' ht'=>?_,fun o v hv=>?_⟩
 ·rw[bT,cw _ _ _ _ _ (fun _ _=>.inl (by show 0<_;omega))]
  exact h.c0
 ·by_cases e:r'=r
  ·subst e
   rw[aaa hr] at ht';cases ht';exact⟨a,c,aF _ _ _ _ (fun j hj=>by
    have:=h.th (1+r'*4+j) (by rw[J6] at hj;omega)
    rwa [aK] at this),hst.kept hk (fun b hb _ e=>hlo (by cases e;exact hb))⟩
  rw[bz (fun e'=>e e'.symm)] at ht';obtain⟨a',c',e1,e2⟩:=h.row r' t' ht';exact⟨a',c',World.rangeAt_setCells_apart e1 _ _ _ (.inr (by show _+4≤_∨_+4≤_;omega)),e2.kept hk (fun b hb _ e=>hlo (by cases e;exact hb))⟩
 by_cases ho:1+r*4≤o∧o<1+r*4+4
 ·obtain⟨j,rfl⟩:∃j,o=1+r*4+j:=⟨o - (1+r*4),by omega⟩
  obtain⟨u,hu⟩:∃u,(iz t a c)[j]?=some u:=⟨_,aa (by rw[J6];omega)⟩;have h5:=aF w kb (1+r*4) (iz t a c) p9 j u hu;rw[h5] at hv;cases hv;have hm:=bu hu;simp only[iz,List.mem_cons,List.not_mem_nil,or_false] at hm;rcases hm with rfl|rfl|rfl|rfl<;>exact⟨fun n e=>(by cases e),fun s e=>(by cases e)⟩
 rw[cw _ _ _ _ _ (fun _ _=>by show o<1+r*4∨1+r*4+(iz t a c).length≤o;rw[J6];omega)] at hv;exact h.q o v hv
def TP(t:jw)(ep:Nat)(fr V:List Nat):Int:=if t.held=true∨ep≤t.ep then 61 else if gq fr V=false then 62 else 0
def JQ(w:ag)(kb r:Nat)(lo:Nat→Prop)(T:List jw)(ep:Nat)(fr V:List Nat)(v:ay)(w':ag):Prop:=
 v=.i (TP (T.getD r iL) ep fr V)∧Kept (·=kb) w w'∧jr w' kb (fun b=>lo b∨w.heap.size≤b) (if TP (T.getD r iL) ep fr V=0 then T.set r ⟨ep,fr,true,false⟩ else T)
theorem XP(w:ag)(kb r:Nat)(lo:Nat→Prop)(T:List jw)(h:jr w kb lo T)(hr:r<T.length)(hlo:¬lo kb)(ep:Nat)(fr V:List Nat)(be bf bv:Nat)(fa va:Option bG)(fc vc:Nat)(l1 l2:Nat→Prop)
  (E1:aH w be 36 (.v ep)) (E2:aH w bf 37 (.slice fa fr.length fc)) (E3:aH w bv 37 (.slice va V.length vc)) (hf:dr w l1 fa fr) (hv:dr w l2 va V) (hl1:fr.length≤1000) (hl2:V.length≤1000) (hbe:be≠kb) (De:bf≠kb):
  aA prog 289 #[.pointer (some ⟨kb,1+r*4,none⟩),.p be,.p bf,.p bv] w fun e w'=>∃v,e=.returned v∧JQ w kb r lo T ep fr V v w':=by
 have hg:T.getD r iL=T[r]:=by simp[bM,aa hr]
 obtain⟨a,c,e1,e2⟩:=h.row r _ (aa hr);rw[←hg] at e1 e2;have HT:=cE (cD h (cD hr hlo));have HS:=cE (cD hf (cD hv (cD hl1 hl2)));obtain⟨t,ht⟩:=cG (T.getD r iL);rw[←ht] at e1 e2;have hkl:=h.lt;have y0:∀w',cF w w'→w'.cell? ⟨kb,1+r*4,none⟩=some (.v (t.ep:Int)):=fun w' hb=>(hb.cell (p:=⟨kb,1+r*4,none⟩) hkl).trans (e1 0 _ rfl)
 have y2:∀w',cF w w'→w'.cell? ⟨kb,1+r*4+2,none⟩=some (.bool t.held):=fun w' hb=>(hb.cell (p:=⟨kb,1+r*4+2,none⟩) hkl).trans (e1 2 _ rfl)
 have z1:∀w',cF w w'→w'.cell? ⟨be,0,none⟩=some (.v (ep:Int)):=fun w' hb=>(hb.cell (p:=⟨be,0,none⟩) E1.lt).trans E1.cell
 have z2:∀w',cF w w'→w'.cell? ⟨bf,0,none⟩=some (.slice fa fr.length fc):=fun w' hb=>(hb.cell (p:=⟨bf,0,none⟩) E2.lt).trans E2.cell
 have z3:∀w',cF w w'→w'.cell? ⟨bv,0,none⟩=some (.slice va V.length vc):=fun w' hb=>(hb.cell (p:=⟨bv,0,none⟩) E3.lt).trans E3.cell
 have VL:=cE (cD E1.lt (cD hbe (cD E2.lt De)));have HZ:=cE (cD z1 (cD z2 z3));have RD:=cE ht;obtain⟨UQ,uE⟩:∃x,x=t.ep:=⟨_,rfl⟩;obtain⟨hd,tP⟩:∃x,x=t.held:=⟨_,rfl⟩;obtain⟨o,ho⟩:∃o,o=1+r*4:=⟨_,rfl⟩;rw[←uE,←ho] at y0;rw[←tP,←ho] at y2;rw[←ho];have RJ:=cE (cD uE (cD tP ho));clear uE tP ho e1 e2 hg h hr hlo hf hv E1 E2 E3 ht;obtain⟨n1,Aq⟩:∃n,n=fr.length:=⟨_,rfl⟩;obtain⟨n2,hn2⟩:∃n,n=V.length:=⟨_,rfl⟩;rw[←Aq] at z2;rw[←hn2] at z3;have JU:=cE (cD Aq hn2);clear Aq hn2;go_enter func289,ntmps289
 go_upto_region 1 with fail
 cases hd with
 |true=>
  refine rB fun wd hS=>?_
  refine tI 0 rfl hS ?_;refine tI 1 rfl hS ?_;refine tI 2 rfl hS ?_;refine tJ 3 rfl hS y2 ?_;simp only[cQ];refine tI 4 rfl hS ?_;refine tN 5 rfl hS ?_;refine tN 6 rfl hS ?_;refine tN 7 rfl hS ?_;simp only[cQ];refine tN 8 rfl hS ?_;refine tN 9 rfl hS ?_;refine tN 10 rfl hS ?_;refine tI 11 rfl hS ?_;simp only[cQ];refine tI 12 rfl hS ?_;simp only[cQ];refine aL cK ?_ _;have sR:=cE hS;clear hS;go_wp2
  go_ret
  refine⟨_,rfl,?_⟩;have hz:TP (T.getD r iL) ep fr V=61:=by unfold TP;rw[if_pos (.inl (by rw[←RD.out,←RJ.out.2.1]))]
  unfold JQ;rw[hz];have hk:=dm (S:=(·=kb)) sR.out;exact⟨rfl,hk,by rw[if_neg cM];exact(HT.out.1.mono (fun _ h=>.inl h)).kept (dm (S:=fun _=>False) sR.out) (fun e=>e) (fun _ _ e=>e)⟩
 |false=>
 refine rB fun wd hS=>?_
 refine tI 0 rfl hS ?_;refine tI 1 rfl hS ?_;refine tI 2 rfl hS ?_;refine tJ 3 rfl hS y2 ?_;simp only[cQ];refine tI 4 rfl hS ?_;refine tJ 5 rfl hS z1 ?_;refine tI 6 rfl hS ?_;refine tI 7 rfl hS ?_;simp only[cQ];refine tI 8 rfl hS ?_;refine tJ 9 rfl hS y0 ?_;refine tI 10 rfl hS ?_;refine tI 11 rfl hS ?_;simp only[cQ];refine tI 12 rfl hS ?_;simp only[cQ];refine aL cK ?_ _;have sR:=cE hS;clear hS;obtain⟨lq,hlq⟩:=cG (decide (ep≤UQ));rw[←hlq];have HLQ:=cE hlq;clear hlq;cases lq with
 |true=>
  go_wp2
  go_ret
  refine⟨_,rfl,?_⟩;have hz:TP (T.getD r iL) ep fr V=61:=by unfold TP;rw[if_pos (.inr (by rw[←RD.out,←RJ.out.1];exact of_decide_eq_true HLQ.out.symm))]
  unfold JQ;rw[hz];have hk:=dm (S:=(·=kb)) sR.out;exact⟨rfl,hk,by rw[if_neg cM];exact(HT.out.1.mono (fun _ h=>.inl h)).kept (dm (S:=fun _=>False) sR.out) (fun e=>e) (fun _ _ e=>e)⟩
 |false=>
 have x2:=z2 wd sR.out;have x3:=z3 wd sR.out;have HLE:=cE (Ap wd fa va fc vc fr V l1 l2 HS.out.2.2.1 HS.out.2.2.2 (HS.out.1.below sR.out) (HS.out.2.1.below sR.out));rw[←JU.out.1,←JU.out.2] at HLE;obtain⟨ok,hok⟩:=cG (gq fr V);rw[←hok] at HLE;have OL:=cE hok;have hz0:TP (T.getD r iL) ep fr V=if ok=false then 62 else 0:=by
  unfold TP;rw[if_neg (by
   rw[←RD.out,←RJ.out.1,←RJ.out.2.1];have:=of_decide_eq_false HLQ.out.symm;simp only[Bool.false_eq_true,false_or];exact this),hok]
 have HZ0:=cE hz0;clear hok hz0;go_wp2_with fail
 refine HLE.out.mono ?_;rintro e w2 ⟨rfl,dz⟩;have iG:=cE (sR.out.trans (dz.mono sR.out.size));clear dz x2 x3;cases ok with
 |false=>
  go_wp2
  go_ret
  refine⟨_,rfl,?_⟩;unfold JQ;rw[HZ0.out,if_pos trivial];exact⟨rfl,dm (S:=(·=kb)) iG.out,by rw[if_neg cM];exact(HT.out.1.mono (fun _ h=>.inl h)).kept (dm (S:=fun _=>False) iG.out) (fun e=>e) (fun _ _ e=>e)⟩
 |true=>
 have q1:∀w',Kept (·=kb) w2 w'→w'.cell? ⟨be,0,none⟩=some (.v (ep:Int)):=fun w' hk=>(hk.cell (p:=⟨be,0,none⟩) (an VL.out.1 iG.out.size) VL.out.2.1).trans (HZ.out.1 w2 iG.out)
 have q2:∀w',Kept (·=kb) w2 w'→w'.cell? ⟨bf,0,none⟩=some (.slice fa n1 fc):=fun w' hk=>by rw[JU.out.1];exact(hk.cell (p:=⟨bf,0,none⟩) (an VL.out.2.2.1 iG.out.size) VL.out.2.2.2).trans (HZ.out.2.1 w2 iG.out)
 have pZ:Hid (∀W,cF w2 W→aA prog 46 #[.slice fa n1 fc] W fun e w'=>∃a c,e=.returned (.slice a n1 c)∧dr w' (fQ W.heap.size) a fr∧cF W w'):=cE (fun W hW=>by
  rw[JU.out.1];refine(lH W fa fc l1 fr (by have:=HS.out.2.2.1;omega) (HS.out.1.below (iG.out.trans (hW.mono iG.out.size)))).mono ?_;intro e w' h;obtain⟨a,c,h1,_,h2,h3⟩:=h.sl;exact⟨a,c,h1,h2,h3⟩)
 have HTK:Hid (cH 192 4):=cE cK;clear y0 y2 z1 z2 z3;go_wp2_with fail
 refine rT fun wd2 hd=>?_
 refine O0 (S':=fun w'=>Kept (·=kb) w2 w') (fun _ _=>trivial) _ _ _ _ ?_;have hS:Kept (·=kb) w2 wd2:=dm hd;refine tI 0 rfl hS ?_;refine tJ 1 rfl hS q1 ?_;refine tJ 2 rfl hS q2 ?_;simp only[cQ];refine cI 3 rfl ?_;refine(pZ.out wd2 hd).mono ?_;rintro e w3 ⟨a3,c3,rfl,abC,eE⟩;have ZT:cF w2 w3:=hd.trans (eE.mono hd.size);have dU:Kept (·=kb) w2 w3:=dm ZT;refine⟨dU,?_⟩;simp only[cQ];refine gI 4 rfl (.agg #[.v (ep:Int),.slice a3 n1 c3,.T,.F]) _ dU ?_;simp only[cQ];refine tI 5 rfl dU ?_;simp only[cQ];have mQ:=cE (iG.out.trans (ZT.mono iG.out.size));have EH:=(HT.out.1.mono (lo':=fun b=>lo b∨w.heap.size≤b) (fun _ h=>.inl h)).kept (dm (S:=fun _=>False) mQ.out) (fun e=>e) (fun _ _ e=>e);have F5:=EH.set HT.out.2.1 (fun h=>by rcases h with h|h;exact HT.out.2.2 h;have:=HT.out.1.lt;omega) ⟨ep,fr,true,false⟩ a3 c3 (abC.mono (fun b _ hb=>.inr (by have hb:wd2.heap.size≤b:=hb;have:=hd.size;have:=iG.out.size;omega)));have p9:w3.there kb (1+r*4) 4:=fun j hj=>by
  have:=EH.th (1+r*4+j) (by have:=HT.out.2.1;have:=HT.out.1.le;omega)
  rwa [aK] at this
 have ac3:=cE (cD F5 ((dm (S:=(·=kb)) mQ.out).trans (ic w3 kb (1+r*4) (iz ⟨ep,fr,true,false⟩ a3 c3))));rw[←RJ.out.2.2] at p9;clear F5 EH;refine sI 6 rfl 192 (.tmp 29) (.tmp 28) kb o #[.v (ep:Int),.slice a3 n1 c3,.T,.F] p9 HTK.out (by simp[aS]) (dU.trans (ic w3 kb o _)) ?_;simp only[cQ];refine aL cK ?_ _;go_wp2
 go_ret
 refine⟨_,rfl,?_⟩;unfold JQ;rw[HZ0.out,if_neg cM,if_pos rfl];have e1:(w3.setCells kb o [.v (ep:Int),.slice a3 n1 c3,.T,.F])=w3.setCells kb (1+r*4) (iz ⟨ep,fr,true,false⟩ a3 c3):=by rw[RJ.out.2.2,JU.out.1];rfl
 have:=ac3.out;rw[←e1] at this;exact⟨rfl,this.2,this.1⟩
def Bo(t:jw)(ep:Nat):Int:=if t.held=false∨t.ep≠ep then 61 else 0
def GA(w:ag)(kb r:Nat)(lo:Nat→Prop)(T:List jw)(ep:Nat)(V:List Nat)(v:ay)(w':ag):Prop:=
 v=.i (Bo (T.getD r iL) ep)∧Kept (·=kb) w w'∧jr w' kb (fun b=>lo b∨w.heap.size≤b) (if Bo (T.getD r iL) ep=0 then T.set r ⟨ep,V,false,true⟩ else T)
theorem Td(w:ag)(kb r:Nat)(lo:Nat→Prop)(T:List jw)(h:jr w kb lo T)(hr:r<T.length)(hlo:¬lo kb)(ep:Nat)(V:List Nat)(be bf:Nat)(fa:Option bG)(fc:Nat)(l1:Nat→Prop)
  (E1:aH w be 36 (.v ep)) (E2:aH w bf 37 (.slice fa V.length fc)) (hf:dr w l1 fa V) (hl1:V.length≤1000) (hbe:be≠kb) (De:bf≠kb):
  aA prog 290 #[.pointer (some ⟨kb,1+r*4,none⟩),.p be,.p bf] w fun e w'=>∃v,e=.returned v∧GA w kb r lo T ep V v w':=by
 have hg:T.getD r iL=T[r]:=by simp[bM,aa hr]
 obtain⟨a,c,e1,e2⟩:=h.row r _ (aa hr);rw[←hg] at e1 e2;have HT:=cE (cD h (cD hr hlo));have HS:=cE (cD hf hl1);obtain⟨t,ht⟩:=cG (T.getD r iL);rw[←ht] at e1 e2;have hkl:=h.lt;have y0:∀w',cF w w'→w'.cell? ⟨kb,1+r*4,none⟩=some (.v (t.ep:Int)):=fun w' hb=>(hb.cell (p:=⟨kb,1+r*4,none⟩) hkl).trans (e1 0 _ rfl)
 have y2:∀w',cF w w'→w'.cell? ⟨kb,1+r*4+2,none⟩=some (.bool t.held):=fun w' hb=>(hb.cell (p:=⟨kb,1+r*4+2,none⟩) hkl).trans (e1 2 _ rfl)
 have z1:∀w',cF w w'→w'.cell? ⟨be,0,none⟩=some (.v (ep:Int)):=fun w' hb=>(hb.cell (p:=⟨be,0,none⟩) E1.lt).trans E1.cell
 have z2:∀w',cF w w'→w'.cell? ⟨bf,0,none⟩=some (.slice fa V.length fc):=fun w' hb=>(hb.cell (p:=⟨bf,0,none⟩) E2.lt).trans E2.cell
 have VL:=cE (cD E1.lt (cD hbe (cD E2.lt De)));have HZ:=cE (cD z1 z2);have RD:=cE ht;obtain⟨UQ,uE⟩:∃x,x=t.ep:=⟨_,rfl⟩;obtain⟨hd,tP⟩:∃x,x=t.held:=⟨_,rfl⟩;obtain⟨o,ho⟩:∃o,o=1+r*4:=⟨_,rfl⟩;rw[←uE,←ho] at y0;rw[←tP,←ho] at y2;rw[←ho];have RJ:=cE (cD uE (cD tP ho));clear uE tP ho e1 e2 hg h hr hlo hf E1 E2 ht;obtain⟨n1,Aq⟩:∃n,n=V.length:=⟨_,rfl⟩;rw[←Aq] at z2;have JU:=cE Aq;clear Aq;go_enter func290,ntmps290
 go_upto_region 1 with fail
 cases hd with
 |false=>
  refine rB fun wd hS=>?_
  refine tI 0 rfl hS ?_;refine tI 1 rfl hS ?_;refine tI 2 rfl hS ?_;refine tJ 3 rfl hS y2 ?_;simp only[cQ];refine tI 4 rfl hS ?_;refine tI 5 rfl hS ?_;refine tN 6 rfl hS ?_;refine tN 7 rfl hS ?_;simp only[cQ];refine tN 8 rfl hS ?_;refine tN 9 rfl hS ?_;refine tN 10 rfl hS ?_;refine tN 11 rfl hS ?_;simp only[cQ];refine tI 12 rfl hS ?_;simp only[cQ];refine aL cK ?_ _;have sR:=cE hS;clear hS;go_wp2
  go_ret
  refine⟨_,rfl,?_⟩;have hz:Bo (T.getD r iL) ep=61:=by unfold Bo;rw[if_pos (.inl (by rw[←RD.out,←RJ.out.2.1]))]
  unfold GA;rw[hz];have hk:=dm (S:=(·=kb)) sR.out;exact⟨rfl,hk,by rw[if_neg cM];exact(HT.out.1.mono (fun _ h=>.inl h)).kept (dm (S:=fun _=>False) sR.out) (fun e=>e) (fun _ _ e=>e)⟩
 |true=>
 refine rB fun wd hS=>?_
 refine tI 0 rfl hS ?_;refine tI 1 rfl hS ?_;refine tI 2 rfl hS ?_;refine tJ 3 rfl hS y2 ?_;simp only[cQ];refine tI 4 rfl hS ?_;refine tI 5 rfl hS ?_;refine tI 6 rfl hS ?_;refine tI 7 rfl hS ?_;simp only[cQ];refine tI 8 rfl hS ?_;refine tJ 9 rfl hS y0 ?_;refine tJ 10 rfl hS z1 ?_;refine tI 11 rfl hS ?_;simp only[cQ];refine tI 12 rfl hS ?_;simp only[cQ];refine aL cK ?_ _;have sR:=cE hS;clear hS;by_cases heq:UQ=ep
 ·have t1:decide (UQ=ep)=true:=by simp[heq]
  have hz0:Bo (T.getD r iL) ep=0:=by
   unfold Bo;rw[if_neg (by rw[←RD.out,←RJ.out.1,←RJ.out.2.1];simp[heq])]
  have HZ0:=cE hz0;clear hz0;have q1:∀w',Kept (·=kb) wd w'→w'.cell? ⟨be,0,none⟩=some (.v (ep:Int)):=fun w' hk=>(hk.cell (p:=⟨be,0,none⟩) (an VL.out.1 sR.out.size) VL.out.2.1).trans (HZ.out.1 wd sR.out)
  have q2:∀w',Kept (·=kb) wd w'→w'.cell? ⟨bf,0,none⟩=some (.slice fa n1 fc):=fun w' hk=>by rw[JU.out];exact(hk.cell (p:=⟨bf,0,none⟩) (an VL.out.2.2.1 sR.out.size) VL.out.2.2.2).trans (HZ.out.2 wd sR.out)
  have pZ:Hid (∀W,cF wd W→aA prog 46 #[.slice fa n1 fc] W fun e w'=>∃a c,e=.returned (.slice a n1 c)∧dr w' (fQ W.heap.size) a V∧cF W w'):=cE (fun W hW=>by
   rw[JU.out];refine(lH W fa fc l1 V (by have:=HS.out.2;omega) (HS.out.1.below (sR.out.trans (hW.mono sR.out.size)))).mono ?_;intro e w' h;obtain⟨a,c,h1,_,h2,h3⟩:=h.sl;exact⟨a,c,h1,h2,h3⟩)
  have HTK:Hid (cH 192 4):=cE cK;clear y0 y2 z1 z2;subst heq;go_wp2_with fail
  refine rT fun wd2 hd=>?_
  refine O0 (S':=fun w'=>Kept (·=kb) wd w') (fun _ _=>trivial) _ _ _ _ ?_;have hS:Kept (·=kb) wd wd2:=dm hd;refine tI 0 rfl hS ?_;refine tJ 1 rfl hS q1 ?_;refine tJ 2 rfl hS q2 ?_;simp only[cQ];refine cI 3 rfl ?_;refine(pZ.out wd2 hd).mono ?_;rintro e w3 ⟨a3,c3,rfl,abC,eE⟩;have ZT:cF wd w3:=hd.trans (eE.mono hd.size);have dU:Kept (·=kb) wd w3:=dm ZT;refine⟨dU,?_⟩;simp only[cQ];refine gI 4 rfl (.agg #[.v (UQ:Int),.slice a3 n1 c3,.F,.T]) _ dU ?_;simp only[cQ];refine tI 5 rfl dU ?_;simp only[cQ];have mQ:=cE (sR.out.trans (ZT.mono sR.out.size));have EH:=(HT.out.1.mono (lo':=fun b=>lo b∨w.heap.size≤b) (fun _ h=>.inl h)).kept (dm (S:=fun _=>False) mQ.out) (fun e=>e) (fun _ _ e=>e);have F5:=EH.set HT.out.2.1 (fun h=>by rcases h with h|h;exact HT.out.2.2 h;have:=HT.out.1.lt;omega) ⟨UQ,V,false,true⟩ a3 c3 (abC.mono (fun b _ hb=>.inr (by have hb:wd2.heap.size≤b:=hb;have:=hd.size;have:=sR.out.size;omega)));have p9:w3.there kb (1+r*4) 4:=fun j hj=>by
   have:=EH.th (1+r*4+j) (by have:=HT.out.2.1;have:=HT.out.1.le;omega)
   rwa [aK] at this
  have ac3:=cE (cD F5 ((dm (S:=(·=kb)) mQ.out).trans (ic w3 kb (1+r*4) (iz ⟨UQ,V,false,true⟩ a3 c3))));rw[←RJ.out.2.2] at p9;clear F5 EH;refine sI 6 rfl 192 (.tmp 23) (.tmp 22) kb o #[.v (UQ:Int),.slice a3 n1 c3,.F,.T] p9 HTK.out (by simp[aS]) (dU.trans (ic w3 kb o _)) ?_;simp only[cQ];refine aL cK ?_ _;go_wp2
  go_ret
  refine⟨_,rfl,?_⟩;unfold GA;rw[HZ0.out,if_pos rfl];have e1:(w3.setCells kb o [.v (UQ:Int),.slice a3 n1 c3,.F,.T])=w3.setCells kb (1+r*4) (iz ⟨UQ,V,false,true⟩ a3 c3):=by rw[RJ.out.2.2,JU.out];rfl
  have:=ac3.out;rw[←e1] at this;exact⟨rfl,this.2,this.1⟩
 have t1:decide (UQ=ep)=false:=by simp[heq]
 have hz:Bo (T.getD r iL) ep=61:=by unfold Bo;rw[if_pos (.inr (by rw[←RD.out,←RJ.out.1];exact heq))]
 have HZ0:=cE hz;clear hz y0 y2 z1 z2;go_wp2
 go_ret
 refine⟨_,rfl,?_⟩;unfold GA;rw[HZ0.out];exact⟨rfl,dm sR.out,by rw[if_neg cM];exact(HT.out.1.mono (fun _ h=>.inl h)).kept (dm (S:=fun _=>False) sR.out) (fun e=>e) (fun _ _ e=>e)⟩
def V9(T:List jw)(r:Int)(ep:Nat)(fr V:List Nat):Int×List jw:=
 if cS.out r T.length then (1,T) else (TP (T.getD r.toNat iL) ep fr V,if TP (T.getD r.toNat iL) ep fr V=0 then T.set r.toNat ⟨ep,fr,true,false⟩ else T)
def CZ(T:List jw)(r:Int)(ep:Nat)(V:List Nat):Int×List jw:=
 if cS.out r T.length then (1,T) else (Bo (T.getD r.toNat iL) ep,if Bo (T.getD r.toNat iL) ep=0 then T.set r.toNat ⟨ep,V,false,true⟩ else T)
def yK(w:ag)(kb:Nat)(lo:Nat→Prop)(x:Int×List jw)(v:ay)(w':ag):Prop:=v=.i x.1∧Kept (·=kb) w w'∧jr w' kb (fun b=>lo b∨w.heap.size≤b) x.2
theorem jr.below{w w':ag}{kb:Nat}{lo:Nat→Prop}{T:List jw}(h:jr w kb lo T)(hb:cF w w'):jr w' kb lo T:=h.kept (dm (S:=fun _=>False) hb) (fun e=>e) (fun _ _ e=>e)
theorem abp(w:ag)(kb:Nat)(lo:Nat→Prop)(T:List jw)(h:jr w kb lo T)(r:Int)(hlo:¬lo kb)(ep:Nat)(fr V:List Nat)(fa va:Option bG)(fc vc:Nat)(l1 l2:Nat→Prop)
  (hf:dr w l1 fa fr) (hv:dr w l2 va V) (hl1:fr.length≤1000) (hl2:V.length≤1000):
  aA prog 252 #[.p kb,.i r,.v ep,.slice fa fr.length fc,.slice va V.length vc] w fun e w'=>∃v,e=.returned v∧yK w kb lo (V9 T r ep fr V) v w':=by
 obtain⟨w1,hw1⟩:=cG (w.alloc (.cells #[.v ep] 36));obtain⟨w2,eS⟩:=cG (w1.alloc (.cells #[.slice fa fr.length fc] 37));obtain⟨w3,kz⟩:=cG (w2.alloc (.cells #[.slice va V.length vc] 37));have E1:aH w3 w.heap.size 36 (.v ep):=by rw[kz,eS,hw1];exact((au w _ _).alloc _).alloc _
 have E2:aH w3 w1.heap.size 37 (.slice fa fr.length fc):=by rw[kz,eS];exact(au w1 _ _).alloc _
 have E3:aH w3 w2.heap.size 37 (.slice va V.length vc):=by rw[kz];exact au w2 _ _
 have hs1:w1.heap.size=w.heap.size+1:=by rw[hw1];exact ah _ _
 have eE:cF w w3:=by rw[kz,eS,hw1];exact cR (cR (cR (af _ _) _) _) _
 have hkl:=h.lt;have Kg:Hid (aA prog 167 #[.p kb,.i r,.func (.func 289) #[] #[.p w.heap.size,.p w1.heap.size,.p w2.heap.size]] w3 fun e w'=>∃v,e=.returned v∧yK w kb lo (V9 T r ep fr V) v w'):=cE (by
  by_cases hr:cS.out r T.length
  ·refine(AD w3 kb T.length r _ (h.below eE).c0 hr).mono ?_
   rintro e w' ⟨rfl,rfl⟩;unfold V9;rw[if_pos hr];exact⟨_,rfl,rfl,dm eE,(h.below eE).mono (fun _ h=>.inl h)⟩
  have hr':=hr;unfold cS.out at hr';obtain⟨n,rfl⟩:∃n:Nat,r=n:=⟨r.toNat,by omega⟩;have hn:n<T.length:=by omega
  refine(Fq w3 kb T.length n 289 _ Yv (h.below eE).c0 hn h.le _ _ cN (XP w3 kb n lo T (h.below eE) hn hlo ep fr V _ _ _ fa va fc vc l1 l2 E1 E2 E3 (hf.below eE) (hv.below eE) hl1 hl2 cL cL)).mono ?_;rintro e w' ⟨v,rfl,h1,h2,h3⟩;unfold V9;rw[if_neg hr];exact⟨v,rfl,h1,(dm eE).trans h2,h3.mono (fun b hb=>by rcases hb with hb|hb;exact .inl hb;exact .inr (aJ eE.size hb))⟩)
 have HW:=cE (cD hw1 (cD eS kz));obtain⟨n1,Aq⟩:∃n,n=fr.length:=⟨_,rfl⟩;obtain⟨n2,hn2⟩:∃n,n=V.length:=⟨_,rfl⟩;rw[←Aq,←hn2] at HW;rw[←Aq,←hn2];generalize V9 T r ep fr V=x at Kg⊢;clear h hw1 eS kz E1 E2 E3 hs1 eE hf hv hl1 hl2 hlo hkl Aq hn2;go_enter func252,ntmps252
 go_wp2_with (first|rw[←HW.out.2.2]|rw[←HW.out.2.1]|rw[←HW.out.1])
 refine Kg.out.mono ?_;rintro e w4 ⟨v,rfl,hv⟩;have HV:=cE hv;clear hv;go_wp2
 go_ret
 exact⟨_,rfl,HV.out⟩
theorem Xe(w:ag)(kb:Nat)(lo:Nat→Prop)(T:List jw)(h:jr w kb lo T)(r:Int)(hlo:¬lo kb)(ep:Nat)(V:List Nat)(va:Option bG)(vc:Nat)(l2:Nat→Prop)
  (hv:dr w l2 va V) (hl2:V.length≤1000):
  aA prog 253 #[.p kb,.i r,.v ep,.slice va V.length vc] w fun e w'=>∃v,e=.returned v∧yK w kb lo (CZ T r ep V) v w':=by
 obtain⟨w1,hw1⟩:=cG (w.alloc (.cells #[.v ep] 36));obtain⟨w3,kz⟩:=cG (w1.alloc (.cells #[.slice va V.length vc] 37));have E1:aH w3 w.heap.size 36 (.v ep):=by rw[kz,hw1];exact(au w _ _).alloc _
 have E3:aH w3 w1.heap.size 37 (.slice va V.length vc):=by rw[kz];exact au w1 _ _
 have hs1:w1.heap.size=w.heap.size+1:=by rw[hw1];exact ah _ _
 have eE:cF w w3:=by rw[kz,hw1];exact cR (cR (af _ _) _) _
 have hkl:=h.lt;have Kg:Hid (aA prog 167 #[.p kb,.i r,.func (.func 290) #[] #[.p w.heap.size,.p w1.heap.size]] w3 fun e w'=>∃v,e=.returned v∧yK w kb lo (CZ T r ep V) v w'):=cE (by
  by_cases hr:cS.out r T.length
  ·refine(AD w3 kb T.length r _ (h.below eE).c0 hr).mono ?_
   rintro e w' ⟨rfl,rfl⟩;unfold CZ;rw[if_pos hr];exact⟨_,rfl,rfl,dm eE,(h.below eE).mono (fun _ h=>.inl h)⟩
  have hr':=hr;unfold cS.out at hr';obtain⟨n,rfl⟩:∃n:Nat,r=n:=⟨r.toNat,by omega⟩;have hn:n<T.length:=by omega
  refine(Fq w3 kb T.length n 290 _ UR (h.below eE).c0 hn h.le _ _ cN (Td w3 kb n lo T (h.below eE) hn hlo ep V _ _ va vc l2 E1 E3 (hv.below eE) hl2 cL cL)).mono ?_;rintro e w' ⟨v,rfl,h1,h2,h3⟩;unfold CZ;rw[if_neg hr];exact⟨v,rfl,h1,(dm eE).trans h2,h3.mono (fun b hb=>by rcases hb with hb|hb;exact .inl hb;exact .inr (aJ eE.size hb))⟩)
 have HW:=cE (cD hw1 kz);obtain⟨n2,hn2⟩:∃n,n=V.length:=⟨_,rfl⟩;rw[←hn2] at HW;rw[←hn2];generalize CZ T r ep V=x at Kg⊢;clear h hw1 kz E1 E3 hs1 eE hv hl2 hlo hkl hn2;go_enter func253,ntmps253
 go_wp2_with (first|rw[←HW.out.2]|rw[←HW.out.1])
 refine Kg.out.mono ?_;rintro e w4 ⟨v,rfl,hv⟩;have HV:=cE hv;clear hv;go_wp2
 go_ret
 exact⟨_,rfl,HV.out⟩
theorem Ko(w:ag)(n:Nat)(hn:n≤4)(lo:Nat→Prop):
  aA prog 42 #[.i n] w fun e w'=>e=.returned (.p w.heap.size)∧cF w w'∧jr w' w.heap.size lo (bY n iL):=by
 have h1:decide ((n:Int)<0)=false:=by simp
 have h2:decide (4<(n:Int))=false:=by simp;omega
 obtain⟨w1,hw1,de,hs1,kH⟩:=dO w [.i n,.V,.n,.F,.F,.V,.n,.F,.F,.V,.n,.F,.F,.V,.n,.F,.F] 195;have hbk:w1.heap[w.heap.size]?=some (.cells #[.i n,.V,.n,.F,.F,.V,.n,.F,.F,.V,.n,.F,.F,.V,.n,.F,.F] 195 (0,0)):=by rw[hw1];exact aO w _
 have hr:=kH w1 (af _ _);have hT:jr w1 w.heap.size lo (bY n iL):=by
  refine⟨by simp;exact hn,by rw[List.length_replicate];exact hr 0 _ rfl,dR hbk 0 17 cN,fun r t ht=>?_,rS hbk rfl⟩;have e1:r<n:=by have:=(aq.1 ht).1;simpa using this
  have e2:t=iL:=by have:=bu ht;exact List.eq_of_mem_replicate this
  subst e2;refine⟨none,0,fun j u hu=>?_,fun k v hk=>by simp[iL] at hk⟩;have hj:j<4:=(aq.1 hu).1;have e3:∀r j:Nat,r<4→j<4→(iz iL none 0)[j]?=([Value.int .i64 n,.V,.n,.F,.F,.V,.n,.F,.F,.V,.n,.F,.F,.V,.n,.F,.F]:List ay)[1+r*4+j]?:=fun r j hr hj=>by
   rcases(show r=0∨r=1∨r=2∨r=3 by omega) with rfl|rfl|rfl|rfl<;>rcases(show j=0∨j=1∨j=2∨j=3 by omega) with rfl|rfl|rfl|rfl<;>rfl
  have:=hr (1+r*4+j) u (by rw[←e3 r j cL hj];exact hu)
  rwa [aK] at this
 have HW:=cE (cD hw1 (cD de hT));clear hw1 de hs1 kH hbk hr hT;go_enter func42,ntmps42
 go_wp2_with (rw[←HW.out.1])
 go_ret
 exact⟨rfl,HW.out.2.1,HW.out.2.2⟩
def wrB(x:gK)(dH:Int):Bool:=decide (0≤x.dK)&&decide (x.dK<dH)&&decide (0<x.ep)&&decide (x.cl=0)&&decide (0<x.dB.length)
def clB(x:gK):Bool:=decide (x.dK=-1)&&decide (x.ep=0)&&decide (0<x.cl)&&decide (x.dB.length=0)
def chB(x:gK)(sites dH:Int):Bool:=decide (x.ew<0)||decide (sites≤x.ew)||decide (x.seq<1)||decide ((x.stamp.length:Int)≠sites)||decide (x.stamp.getD x.ew.toNat 0≠x.seq - 1)||(wrB x dH==clB x)
theorem G1(w:ag)(x:gK)(r:dS)(sites:Nat)(dH:Int)(lo:Nat→Prop)(hst:dr w lo r.sa x.stamp)(hq:x.seq<18446744073709551616)(hl:x.stamp.length<1000000):
  aA prog 27 #[eN x r,.i sites,.i dH] w fun e w'=>e=.returned (.i (if chB x sites dH then 1 else 0))∧cF w w':=by
 obtain⟨w1,hw1,de,hs1,kH⟩:=dO w (cT x r) 40;have y0:∀w',cF w1 w'→w'.cell? ⟨w.heap.size,0,none⟩=some (.i x.ew):=fun w' h=>kH w' h 0 _ rfl
 have y1:∀w',cF w1 w'→w'.cell? ⟨w.heap.size,1,none⟩=some (.v x.seq):=fun w' h=>kH w' h 1 _ rfl
 have y2:∀w',cF w1 w'→w'.cell? ⟨w.heap.size,2,none⟩=some (.i x.dK):=fun w' h=>kH w' h 2 _ rfl
 have y3:∀w',cF w1 w'→w'.cell? ⟨w.heap.size,3,none⟩=some (.v x.ep):=fun w' h=>kH w' h 3 _ rfl
 have y4:∀w',cF w1 w'→w'.cell? ⟨w.heap.size,4,none⟩=some (.slice r.sa x.stamp.length r.sc):=fun w' h=>kH w' h 4 _ rfl
 have y5:∀w',cF w1 w'→w'.cell? ⟨w.heap.size,5,none⟩=some (.slice r.ea x.dB.length r.ec):=fun w' h=>kH w' h 5 _ rfl
 have y6:∀w',cF w1 w'→w'.cell? ⟨w.heap.size,6,none⟩=some (.u x.cl):=fun w' h=>kH w' h 6 _ rfl
 have HY:=cE (cD y0 (cD y1 (cD y2 (cD y3 (cD y4 (cD y5 y6))))));have HW:=cE (cD hw1 de);have HS:=cE (cD (hst.below de) (cD hq hl));clear hst hq hl kH y0 y1 y4 hw1 de hs1;obtain⟨E,hE⟩:∃E:Int,E=(if chB x sites dH then 1 else 0):=⟨_,rfl⟩;rw[←hE];have HE:=cE hE;clear hE;unfold eN cT;unfold cT at HW;have z2:=y2 w1 (af _ _);have z3:=y3 w1 (af _ _);have z5:=y5 w1 (af _ _);have z6:=y6 w1 (af _ _);clear y2 y3 y5 y6;obtain⟨c1,t1⟩:∃b,decide (0≤x.dK)=b:=⟨_,rfl⟩;obtain⟨c2,t2⟩:∃b,decide (x.dK<dH)=b:=⟨_,rfl⟩;obtain⟨c3,t3⟩:∃b,decide (0<x.ep)=b:=⟨_,rfl⟩;obtain⟨c4,t4⟩:∃b,decide (x.cl=0)=b:=⟨_,rfl⟩;obtain⟨c5,t5⟩:∃b,decide (0<x.dB.length)=b:=⟨_,rfl⟩;have t4':((x.cl:Int)==0)=c4:=by rw[←t4];by_cases h:x.cl=0<;>simp[h]
 obtain⟨d1,s1⟩:∃b,decide (x.dK=-1)=b:=⟨_,rfl⟩;obtain⟨d2,s2⟩:∃b,decide (x.ep=0)=b:=⟨_,rfl⟩;obtain⟨d3,s3⟩:∃b,decide (0<x.cl)=b:=⟨_,rfl⟩;obtain⟨d4,s4⟩:∃b,decide (x.dB.length=0)=b:=⟨_,rfl⟩;have s1':(x.dK==-1)=d1:=by rw[←s1];by_cases h:x.dK=-1<;>simp[h]
 have s2':((x.ep:Int)==0)=d2:=by rw[←s2];by_cases h:x.ep=0<;>simp[h]
 have s4':((x.dB.length:Int)==0)=d4:=by rw[←s4];by_cases h:x.dB.length=0<;>simp[h]
 have HC:=cE (show wrB x dH=(c1&&c2&&c3&&c4&&c5) by unfold wrB;rw[t1,t2,t3,t4,t5]);have HD:=cE (show clB x=(d1&&d2&&d3&&d4) by unfold clB;rw[s1,s2,s3,s4]);have rX:=cE (cD s1 (cD s2 (cD s3 (cD s4 (cD s1' (cD s2' s4'))))));clear s1 s2 s3 s4 s1' s2' s4';obtain⟨n5,hn5⟩:∃n,n=x.dB.length:=⟨_,rfl⟩;go_enter func27,ntmps27
 go_upto_region 1 with (rw[←HW.out.1])
 go_cut [7] (fun v wc=>v=.bool (wrB x dH)∧w1=wc)
 case first=>
  skip
  cases c1
  case false=>
   go_wp2_with fail
   go_meet
   case rel=>exact⟨by rw[HC.out];first|rfl|simp,rfl⟩
  case true=>
  cases c2
  case false=>
   go_wp2_with fail
   go_meet
   case rel=>exact⟨by rw[HC.out];first|rfl|simp,rfl⟩
  case true=>
  cases c3
  case false=>
   go_wp2_with fail
   go_meet
   case rel=>exact⟨by rw[HC.out];first|rfl|simp,rfl⟩
  case true=>
  cases c4
  all_goals
   go_wp2_with fail
   go_meet
   case rel=>exact⟨by rw[HC.out];first|rfl|simp,rfl⟩
 case rest=>
 obtain⟨rfl,rfl⟩:=hcut;clear t1 t2 t3 t4 t5 t4';have hs:=rX.out;obtain⟨s1,s2,s3,s4,s1',s2',s4'⟩:=hs;go_upto_region 2 with fail
 go_cut [8] (fun v wc=>v=.bool (clB x)∧w1=wc)
 case first=>
  skip
  cases d1
  case false=>
   go_wp2_with fail
   go_meet
   case rel=>exact⟨by rw[HD.out];first|rfl|simp,rfl⟩
  case true=>
  cases d2
  case false=>
   go_wp2_with fail
   go_meet
   case rel=>exact⟨by rw[HD.out];first|rfl|simp,rfl⟩
  case true=>
  cases d3
  all_goals
   go_wp2_with fail
   go_meet
   case rel=>exact⟨by rw[HD.out];first|rfl|simp,rfl⟩
 case rest=>
 obtain⟨rfl,rfl⟩:=hcut;clear s1 s2 s3 s4 s1' s2' s4' z2 z3 z5 z6;obtain⟨wr,hwr⟩:∃b,b=wrB x dH:=⟨_,rfl⟩;obtain⟨cl,hcl⟩:∃b,b=clB x:=⟨_,rfl⟩;obtain⟨b1,t1⟩:∃b,decide (x.ew<0)=b:=⟨_,rfl⟩;obtain⟨b2,t2⟩:∃b,decide ((sites:Int)≤x.ew)=b:=⟨_,rfl⟩;obtain⟨b3,t3⟩:∃b,decide (x.seq<1)=b:=⟨_,rfl⟩;obtain⟨b4,t4⟩:∃b,decide ((x.stamp.length:Int)≠sites)=b:=⟨_,rfl⟩;obtain⟨b5,t5⟩:∃b,decide (x.stamp.getD x.ew.toNat 0≠x.seq - 1)=b:=⟨_,rfl⟩;have t3':decide (x.seq=0)=b3:=by rw[←t3];by_cases h:x.seq=0<;>simp[h]<;>omega
 have t4':((x.stamp.length:Int) != sites)=b4:=by rw[←t4];by_cases h:(x.stamp.length:Int)=sites<;>simp[h]
 have HB:=cE (show chB x sites dH=(b1||b2||b3||b4||b5||(wr==cl)) by unfold chB;rw[t1,t2,t3,t4,t5,hwr,hcl]);rw[←hwr,←hcl];have HWC:=cE (cD hwr hcl);have HT:=cE (cD t1 (cD t2 (cD t3 (cD t4 t5))));clear hwr hcl t5 t4;obtain⟨y0,y1,_,_,y4,_,_⟩:=HY.out;have z0:=y0 w1 (af _ _);have z1:=y1 w1 (af _ _);have z4:=y4 w1 (af _ _);clear y0 y1 y4;go_upto_region 3 with fail
 go_cut [90] (fun v wc=>v=.bool (chB x sites dH)∧cF w1 wc)
 case first=>
  skip
  cases b1
  case true=>
   go_quiet (fail)
   go_wp2
   go_meet
   case rel=>exact⟨by rw[HB.out];first|rfl|simp,below_drewN (af _ _) _⟩
  case false=>
  cases b2
  case true=>
   go_quiet (fail)
   go_wp2
   go_meet
   case rel=>exact⟨by rw[HB.out];first|rfl|simp,below_drewN (af _ _) _⟩
  case false=>
  cases b3
  case true=>
   have hz:x.seq=0:=by have:=of_decide_eq_true t3;omega
   rw[hz] at z1;clear t3 t3';go_quiet (fail)
   go_wp2
   go_meet
   case rel=>exact⟨by rw[HB.out];first|rfl|simp,below_drewN (af _ _) _⟩
  case false=>
  obtain⟨s,LS⟩:∃s,x.seq=s+1:=⟨x.seq - 1,by have:=of_decide_eq_false t3;omega⟩;rw[LS] at z1;have hs1:decide ((s:Int)+1<1)=false:=by simp;omega
  have hs2:decide (s+1<1)=false:=by simp
  have HSQ:=cE LS;clear t3 t3' LS;cases b4
  case true=>
   go_quiet (fail)
   go_wp2
   go_meet
   case rel=>exact⟨by rw[HB.out];first|rfl|simp,below_drewN (af _ _) _⟩
  case false=>
  obtain⟨h1,h2,h3,h4,t5⟩:=HT.out;have hn:(x.stamp.length:Int)=sites:=by simpa using of_decide_eq_false h4
  have uD:¬x.ew<0:=of_decide_eq_false h1;have hg2:¬(sites:Int)≤x.ew:=of_decide_eq_false h2;have Yd:¬x.seq<1:=of_decide_eq_false h3;obtain⟨k,hk⟩:∃k:Nat,x.ew=k:=⟨x.ew.toNat,by omega⟩;have hkl:k<x.stamp.length:=by omega
  obtain⟨V,hV⟩:=cG (x.stamp.getD x.ew.toNat 0);have hVk:x.stamp[k]?=some V:=by rw[hV,hk];simp[bM,aa hkl]
  obtain⟨sb,so,hsa,_,GL,hsc⟩:=HS.out.1 k V hVk;rw[←hV] at t5;have hsub:IntKind.u64.wrap (s:Int)=(s:Int):=by rw[aae];have:=HS.out.2.1;have:=HSQ.out;omega
  rw[HSQ.out,Nat.add_sub_cancel] at t5;have t5':((V:Int) != (s:Int))=b5:=by rw[←t5];by_cases h:V=s<;>simp[h];omega
  have VE:=cE t5;have t2':decide (sites≤k)=false:=by simp;omega
  have g1:(0:Int)≤k:=by omega
  have g2:(k:Int)<x.stamp.length:=by omega
  clear h1 h2 h3 h4 hn uD hg2 Yd t5 hkl hVk GL hV;rw[hk] at z0 t1 t2;rw[hsa] at z4;clear HT VE;cases b5
  all_goals
   go_quiet (fail)
   go_wp2
   go_meet
   case rel=>exact⟨by rw[HB.out];first|rfl|simp,below_drewN (af _ _) _⟩
 case rest=>
 obtain⟨rfl,hbc⟩:=hcut;have uV:=cE hbc;clear hbc z0 z1 z4 t1 t2 t3 t4';generalize chB x sites dH=bad at HE⊢;cases bad
 all_goals
  go_wp2
  go_ret
  exact⟨by rw[HE.out];rfl,HW.out.2.trans (uV.out.mono HW.out.2.size)⟩
def WX(x:gK)(V:List Nat):Bool:=decide (0≤x.ew)&&decide (x.ew<V.length)&&decide (0<x.seq)&&decide (x.seq - 1=V.getD x.ew.toNat 0)&&gq x.stamp V
theorem G0(w:ag)(x:gK)(r:dS)(va:Option bG)(vc:Nat)(V:List Nat)(lo l2:Nat→Prop)(hst:dr w lo r.sa x.stamp)(hv:dr w l2 va V)(hq:x.seq<18446744073709551616)(hl:x.stamp.length≤1000)(hl2:V.length≤1000):
  aA prog 248 #[eN x r,.slice va V.length vc] w fun e w'=>e=.returned (.bool (WX x V))∧cF w w':=by
 obtain⟨w1,hw1,de,hs1,kH⟩:=dO w (cT x r) 40;have y0:∀w',cF w1 w'→w'.cell? ⟨w.heap.size,0,none⟩=some (.i x.ew):=fun w' h=>kH w' h 0 _ rfl
 have y1:∀w',cF w1 w'→w'.cell? ⟨w.heap.size,1,none⟩=some (.v x.seq):=fun w' h=>kH w' h 1 _ rfl
 have y4:∀w',cF w1 w'→w'.cell? ⟨w.heap.size,4,none⟩=some (.slice r.sa x.stamp.length r.sc):=fun w' h=>kH w' h 4 _ rfl
 have HW:=cE (cD hw1 de);have HS:=cE (cD (hst.below de) (cD (hv.below de) (cD hq (cD hl hl2))));clear hst hv hq hl hl2 kH hw1 de hs1;unfold eN cT;unfold cT at HW;obtain⟨B,hB⟩:=cG (WX x V);rw[←hB];obtain⟨b1,t1⟩:∃b,decide (0≤x.ew)=b:=⟨_,rfl⟩;obtain⟨b2,t2⟩:∃b,decide (x.ew<(V.length:Int))=b:=⟨_,rfl⟩;obtain⟨b3,t3⟩:∃b,decide (0<x.seq)=b:=⟨_,rfl⟩;obtain⟨b4,t4⟩:∃b,decide (x.seq - 1=V.getD x.ew.toNat 0)=b:=⟨_,rfl⟩;obtain⟨b5,t5⟩:∃b,gq x.stamp V=b:=⟨_,rfl⟩;have HB:=cE (show B=(b1&&b2&&b3&&b4&&b5) by rw[hB];unfold WX;rw[t1,t2,t3,t4,t5]);have HT:=cE (cD t4 t5);clear t4 t5 hB;have z0:=y0 w1 (af _ _);have z1:=y1 w1 (af _ _);have HY:=cE (cD y0 (cD y1 y4));clear y0 y1 y4;obtain⟨nv,uA⟩:∃n,n=V.length:=⟨_,rfl⟩;rw[←uA] at t2⊢;have HNV:=cE uA;clear uA;go_enter func248,ntmps248
 go_upto_region 1 with (rw[←HW.out.1])
 go_cut [4] (fun v wc=>v=.bool B∧cF w1 wc)
 case first=>
  skip
  cases b1
  case false=>
   go_quiet (fail)
   go_wp2
   go_meet
   case rel=>exact⟨by rw[HB.out];first|rfl|simp,below_drewN (af _ _) _⟩
  case true=>
  cases b2
  case false=>
   go_quiet (fail)
   go_wp2
   go_meet
   case rel=>exact⟨by rw[HB.out];first|rfl|simp,below_drewN (af _ _) _⟩
  case true=>
  cases b3
  case false=>
   have hz:x.seq=0:=by have:=of_decide_eq_false t3;omega
   rw[hz] at z1;clear t3;go_quiet (fail)
   go_wp2
   go_meet
   case rel=>exact⟨by rw[HB.out];first|rfl|simp,below_drewN (af _ _) _⟩
  case true=>
  obtain⟨s,LS⟩:∃s,x.seq=s+1:=⟨x.seq - 1,by have:=of_decide_eq_true t3;omega⟩;have uD:0≤x.ew:=of_decide_eq_true t1;have hg2:x.ew<(nv:Int):=of_decide_eq_true t2;obtain⟨k,hk⟩:∃k:Nat,x.ew=k:=⟨x.ew.toNat,by omega⟩;have hkl:k<nv:=by omega
  obtain⟨X,hX⟩:=cG (V.getD x.ew.toNat 0);have hVk:V[k]?=some X:=by rw[hX,hk];simp[bM,aa (show k<V.length by rw[←HNV.out];exact hkl)]
  obtain⟨sb,so,hsa,_,GL,hsc⟩:=HS.out.2.1 k X hVk;subst hsa;have hsub:IntKind.u64.wrap (s:Int)=(s:Int):=by rw[aae];have:=HS.out.2.2.1;omega
  have hb4:((s:Int)==(X:Int))=b4:=by rw[←HT.out.1,←hX,LS,Nat.add_sub_cancel];by_cases h:s=X<;>simp[h]<;>omega
  have g1:(0:Int)≤k:=by omega
  have g2:(k:Int)<nv:=by omega
  have g3:decide (k<nv)=true:=decide_eq_true cL;have g4:decide (0<(s:Int)+1)=true:=decide_eq_true cL;have HSQ:=cE LS;rw[LS] at z1;rw[hk] at z0 t1 t2;have HK:=cE (cD GL hk);clear t3 LS uD hg2 hkl hX hVk GL hk;cases b4
  case false=>
   go_quiet (fail)
   go_wp2
   go_meet
   case rel=>exact⟨by rw[HB.out];first|rfl|simp,below_drewN (af _ _) _⟩
  case true=>
  obtain⟨y0,y1,y4⟩:=HY.out;have yi:∀w',cF w1 w'→w'.cell? ⟨sb,so+k,none⟩=some (.v (X:Int)):=fun w' h=>(h.cell (p:=⟨sb,so+k,none⟩) HK.out.1).trans hsc
  rw[HSQ.out] at y1;rw[HK.out.2] at y0;obtain⟨nl,hnl⟩:∃n,n=x.stamp.length:=⟨_,rfl⟩;have HL:Hid (∀W,cF w1 W→aA prog 17 #[.slice r.sa nl r.sc,.slice (some ⟨sb,so,none⟩) nv vc] W fun e w'=>e=.returned (.bool b5)∧cF W w'):=cE (fun W hW=>by
   rw[hnl,HNV.out,←HT.out.2];exact Ap W _ _ _ _ x.stamp V lo l2 HS.out.2.2.2.1 HS.out.2.2.2.2 (HS.out.1.below hW) (HS.out.2.1.below hW))
  rw[←hnl] at y4;clear z0 z1 hnl;refine rB fun wd hS=>?_
  refine tI 0 rfl hS ?_;refine tJ 1 rfl hS y0 ?_;refine tI 2 rfl hS ?_;refine tI 3 rfl hS ?_;simp only[cQ];refine tI 4 rfl hS ?_;refine tJ 5 rfl hS y0 ?_;refine tI 6 rfl hS ?_;refine tI 7 rfl hS ?_;simp only[cQ];refine tI 8 rfl hS ?_;refine tI 9 rfl hS ?_;refine tI 10 rfl hS ?_;refine tI 11 rfl hS ?_;simp only[cQ];refine tJ 12 rfl hS y1 ?_;refine tI 13 rfl hS ?_;refine tI 14 rfl hS ?_;refine tI 15 rfl hS ?_;simp only[cQ];refine tI 16 rfl hS ?_;refine tJ 17 rfl hS y1 ?_;refine tI 18 rfl hS ?_;refine tI 19 rfl hS ?_;simp only[cQ];refine tI 20 rfl hS ?_;refine tJ 21 rfl hS y0 ?_;refine tI 22 rfl hS ?_;refine tJ 23 rfl hS yi ?_;simp only[cQ];refine tI 24 rfl hS ?_;refine tI 25 rfl hS ?_;refine tI 26 rfl hS ?_;refine tI 27 rfl hS ?_;simp only[cQ];refine tJ 28 rfl hS y4 ?_;refine tI 29 rfl hS ?_;simp only[cQ];refine cI 30 rfl ?_;refine(HL.out wd hS).mono ?_;rintro e w3 ⟨rfl,eE⟩;have dU:cF w1 w3:=hS.trans (eE.mono hS.size);refine⟨dU,?_⟩;simp only[cQ];refine tI 31 rfl dU ?_;refine tI 32 rfl dU ?_;simp only[cQ];refine aL cK ?_ _;go_wp2
  go_meet
  case rel=>exact⟨by rw[HB.out];simp,dU⟩
 case rest=>
 obtain⟨rfl,hbc⟩:=hcut;have uV:=cE hbc;clear hbc z0 z1 t1 t2 t3;go_wp2
 go_ret
 exact⟨rfl,HW.out.2.trans (uV.out.mono HW.out.2.size)⟩
theorem UP(w:ag)(a:Option bG)(n c:Nat):(binOp .eql 38 (.slice a n c) (.n)).run prog w=.ok (.bool a.isNone) w:=Lib.run_eql_slice_nil w _ _ a n c 0 0 underlying38
theorem cZ.ki(r:cZ):r.cells.length=11:=rfl
theorem tS(L:List cZ):(L.flatMap cZ.cells).length=L.length*11:=by
 induction L with
 |nil=>rfl
 |cons a L ih=>rw[bH,aE,ih,cZ.ki,aN];omega
theorem Ys{L:List cZ}{j:Nat}{u:ay}(h:(L.flatMap cZ.cells)[j]?=some u):∃r,L[j / 11]?=some r∧r.cells[j % 11]?=some u:=by
 have hj:=(aq.1 h).1;rw[tS] at hj;have hk:j / 11<L.length:=by omega
 have hr:=aa hk;have hi:j % 11<(L[j / 11]).cells.length:=by rw[cZ.ki];omega
 have hu:=aa hi;have:=wQ L (j / 11) _ hr (j % 11) _ hu;rw[show j / 11*11+j % 11=j by omega,h] at this;exact⟨_,hr,hu.trans this.symm⟩
theorem cells_one(r:cZ):∀u∈r.cells,u.oneCell'=true:=by
 obtain⟨p,g,ra,rn,rc,⟨q1,q2,q3,q4,q5,q6,q7,q8⟩⟩:=r;intro u hu;simp[cZ.cells,Raw.cells,eL.cells] at hu;rcases hu with rfl|rfl|rfl|rfl|rfl|rfl|rfl|rfl|rfl|rfl|rfl<;>rfl
def Y5(w:ag)(L:List cZ)(e:Ending)(w':ag):Prop:=∃v,e=.returned v∧w'.ownsRow w.heap.size 93 11 v L.length (L.flatMap cZ.cells)∧cF w w'
theorem MC(w:ag)(ao:Option bG)(c:Nat)(L:List cZ)(hl:L.length≤100000)(h:gC w w.heap.size ao L):
  aA prog 201 #[.slice ao L.length c] w (Y5 w L):=by
 cases ao with
 |none=>
  have hV:L=[]:=by
   cases L with
   |nil=>rfl
   |cons v r=>
   obtain⟨b,off,e,_⟩:=h 0 v rfl;cases e
  subst hV;have q:=fun w:ag=>UP w none 0 c
  clear h;go_enter func201,ntmps201
  go_wp2
  go_ret
  exact⟨_,rfl,aag w _ 93 11,af _ _⟩
 |some ad=>
 have q:=fun w:ag=>UP w (some ad) L.length c
 have hcells:∀j u,(L.flatMap cZ.cells)[j]?=some u→(w.alloc (.cells #[] 93)).cell? (ad.add j)=some u:=fun j u hu=>by
  obtain⟨r,hr,hu2⟩:=Ys hu;obtain⟨b,off,e,h3,h4⟩:=h _ _ hr;cases e;have:=h4 _ _ hu2;rw[show off+j / 11*11+j % 11=off+j by omega] at this;rw[Addr.add_mid];exact((cR (af _ w) _).cell (p:=⟨b,off+j,none⟩) h3).trans this
 have zS:=cE hcells;have ahl:Hid (∀u∈L.flatMap cZ.cells,u.oneCell'=true):=cE (fun u hu=>by
  obtain⟨r,_,h2⟩:=List.mem_flatMap.1 hu;exact cells_one r u h2)
 have OK:=cE (World.ownsRow_made (base:=w.heap.size) (e:=93) (size:=11) w #[] 0 cL cM rfl);have ac7:=tS L;obtain⟨F,hF⟩:=cG (L.flatMap cZ.cells);obtain⟨N,hN⟩:=cG L.length;rw[←hF,←hN] at ac7;rw[←hF] at zS ahl;have GH:=cE ac7;obtain⟨i0,hi,hz0,hz1,hz2⟩:=info_parts uy;have HI:=cE (cD hi (cD hz0 (cD hz1 hz2)));have HN:=cE (cD hN hF);rw[←hN] at hl q⊢;clear h hcells ac7 hN hF hi hz0 hz1 hz2;go_enter func201,ntmps201
 go_wp2_with (at_builtin;refine ef rfl (.tmp 5) (.tmp 6) 38 rfl w.heap.size 93 i0 (.agg #[.z,.F,.n,.U,.U,.U,.I,.U,.V,.V,.V]) 11 104 underlying38 HI.out.1 HI.out.2.1 HI.out.2.2.1 HI.out.2.2.2 rfl cM _ _ _ rfl OK.out ad N c F rfl GH.out zS.out ahl.out (by unfold maxLen;omega) cL cN ?_;intro v3 w3 hown hgrow hwhere)
 have CN:cF w w3:=(cR (af _ w) _).grown hgrow cN (fun g hg=>(OK.out.lt g hg).1);rw[aK] at hown;have VH:=cE hown;have mQ:=cE CN;clear hown hgrow hwhere CN;go_wp2
 go_ret
 refine⟨v3,rfl,?_,mQ.out⟩;have h3:=VH.out;have h4:=HN.out;rw[h4.1,h4.2] at h3;simpa using h3
def cZ.iJ(r:cZ)(a:Option bG)(c:Nat):cZ:={r with node:={r.node with a:=a,c:=c}}
theorem Ji:∀(L:List cZ) (k:Nat) (r:cZ),L[k]?=some r→∀(a:Option bG) (c:Nat),(L.flatMap cZ.cells).set (k*11+2) (.slice a r.node.n c)=(L.set k (r.iJ a c)).flatMap cZ.cells
 |[],k,r,h,a,c=>by simp at h
 |x::L,0,r,h,a,c=>by
  simp at h;subst h;rfl
 |x::L,k+1,r,h,a,c=>by
  have h':L[k]?=some r:=by simpa using h
  rw[List.set_cons_succ,bH,bH,←Ji L k r h' a c,List.set_append_right _ _ (by rw[cZ.ki];omega),cZ.ki,show(k+1)*11+2 - 11=k*11+2 by omega]
structure JN(w w2 wr:ag)(x:gK)(L:List cZ)(ga:Option bG)(gc:Nat)(q:dS)(j:Nat):Prop where
 lk:∃Lk:List cZ,Lk.length=L.length∧wr.ownsRow w2.heap.size 93 11 (.slice ga L.length gc) L.length (Lk.flatMap cZ.cells)∧
  (∀(i:Nat) r e,i<j→Lk[i]?=some r→x.dB[i]?=some e→kP wr (fun b=>w2.heap.size≤b∧(aT ga L.length gc).ownBlock≠some b) r e)∧(∀i,j≤i→Lk[i]?=L[i]?)
 box:wr.heap[w.heap.size]?=some (.cells #[.i x.ew,.v (x.seq:Int),.i x.dK,.v (x.ep:Int),.slice q.sa x.stamp.length q.sc,.slice ga L.length gc,.u (x.cl:Int)] 40 (0,0))
 th:wr.there (w.heap.size+1) 0 7
 st:dr wr (fun b=>w2.heap.size≤b∧(aT ga L.length gc).ownBlock≠some b) q.sa x.stamp
 bl:cF w wr
 size:w.heap.size+2≤w2.heap.size∧w2.heap.size≤wr.heap.size
theorem Kq{w w':ag}{B o n:Nat}{S:Nat→Prop}(h:w.there B o n)(hk:Kept S w w')(hB:B<w.heap.size)(hS:¬S B):w'.there B o n:=fun j hj=>by
 obtain⟨h1,h2⟩:=h j hj;exact⟨by rw[hk.cell (p:=⟨B,o+j,none⟩) hB hS];exact h1,(hk.frozen (p:=⟨B,o+j,none⟩) hB hS).trans h2⟩
theorem JN.next{w w2 wr:ag}{x:gK}{L Lk:List cZ}{g gc:Nat}{q:dS}{j:Nat}(h:JN w w2 wr x L (some ⟨g,0,none⟩) gc q j)(hlk:Lk.length=L.length)
  (hlo:∀(i:Nat) r e,i<j→Lk[i]?=some r→x.dB[i]?=some e→kP wr (fun b=>w2.heap.size≤b∧(aT (some ⟨g,0,none⟩) L.length gc).ownBlock≠some b) r e) (hhi:∀i,j≤i→Lk[i]?=L[i]?)
  {rj:cZ} {ej:gh} (hj:L[j]?=some rj) (he:x.dB[j]?=some ej) (uD:w2.heap.size≤g) (hg2:g<wr.heap.size) (wc:ag) (hdc:cF wr wc) (a':Option bG) (c':Nat) (B:Nat) (hB:wr.heap.size≤B)
  (b3:eB wc (fQ B) wc.heap.size a' ej.node.data) (n3:a'=none→ej.node.data=[]∧c'=0) (hp:rj.path=ej.path) (wJ:rj.gone=ej.gone) (hn:rj.node.num=ej.node.num) (hl:rj.node.n=ej.node.data.length)
  (wf:ag) (hk:Kept (·=g) wc wf) (hst:wf.ownsRow w2.heap.size 93 11 (.slice (some ⟨g,0,none⟩) L.length gc) L.length ((Lk.set j (rj.iJ a' c')).flatMap cZ.cells)):
  JN w w2 wf x L (some ⟨g,0,none⟩) gc q (j+1):=by
 have hsz:=h.size;have hcs:=hdc.size;have Wi:∀b,(w2.heap.size≤b∧(aT (some ⟨g,0,none⟩) L.length gc).ownBlock≠some b)→¬b=g:=fun b hb e=>hb.2 (by rw[e];rfl)
 have hjl:j<Lk.length:=by rw[hlk];exact(aq.1 hj).1
 have ab6:cF w wf:=(h.bl.trans (hdc.mono h.bl.size)).trans (hk.below cL (fun b e=>by have e:b=g:=e;omega));refine⟨⟨Lk.set j (rj.iJ a' c'),by rw[bT];exact hlk,hst,fun i r e hi hr hee=>?_,fun i hi=>?_⟩,?_,?_,?_,ab6,by omega,by have:=hk.size;omega⟩
 ·by_cases hij:i=j
  ·subst hij
   rw[aaa hjl] at hr;cases hr;rw[he] at hee;cases hee;exact⟨hp,wJ,hn,hl,((b3.kept hk (aC _) (fun b hb _ _ e=>by have hb:B≤b:=hb;have e:b=g:=e;omega)).mono (fun b hb=>by have hb:B≤b:=hb;exact⟨by omega,fun e=>by have e:some g=some b:=e;cases e;omega⟩) hk.size),n3⟩
  rw[bz (fun e=>hij e.symm)] at hr;obtain⟨z1,z2,z3⟩:=(hlo i r e cL hr hee).below hdc;exact⟨z1,z2,z3.num,z3.len,(z3.data.kept hk (aC _) (fun b hb _ _=>Wi b hb)).mono (fun _ h=>h) hk.size,z3.nil⟩
 ·rw[bz cL]
  exact hhi i cL
 ·have hlt:w.heap.size<wr.heap.size:=by omega
  exact(hk.block _ cL (fun e=>by have e:w.heap.size=g:=e;omega)).trans ((hdc.block _ hlt).trans h.box)
 ·have hlt:w.heap.size+1<wr.heap.size:=by omega
  exact Kq (qT h.th hdc hlt) hk cL (fun e=>by have e:w.heap.size+1=g:=e;omega)
 exact(h.st.below hdc).kept hk (fun b hb _=>Wi b hb)
section
variable{P:Program}{l:List Oper}{Q:Exit→Act→World→Prop}{md:Region.Mode}{S:World→Prop}
theorem uI(i:Nat){oi:Oper}{r:List Oper}{fuel:Nat}{listed:Array Bool}{a:Act}{w:ag}(hi:l.drop i=oi::r)(w':ag)(hS:S w')
  (h:wpAnyH P md l.toArray Q S fuel (listed.setIfInBounds i true) (a.put oi.dst aI) w')
  (hr:Region.ready md l.toArray listed=[i]:=by kernel_rfl) (hw:bX oi (yielded l.toArray a.tmps)=true:=by rfl)
  (hx:(execOp a.eval oi).run P w=.ok .skip w':=by go_simp<;>first|rfl|exact⟨rfl,rfl⟩):wpAnyH P md l.toArray Q S (fuel+1) listed a w:=
 Bf i hi hr hw (by unfold Oper.wp;rw[hx];exact⟨hS,h⟩)
end
theorem O6(w:ag)(x:gK)(r:dS)(L:List cZ)(lo:Nat→Prop)(h:eu w lo r L x)(hl1:x.stamp.length≤1000)(hl2:x.dB.length≤1000)(hd:∀e∈x.dB,e.node.data.length≤1000000):
  aA prog 107 #[eN x r] w fun e w'=>∃r' L',e=.returned (eN x r')∧eu w' (fQ w.heap.size) r' L' x∧(∀ad,r'.ea=some ad→ad.block<w'.heap.size)∧cF w w':=by
 have hLl:L.length=x.dB.length:=h.like.1;obtain⟨w2,eS⟩:=cG ((w.alloc (.cells #[.i x.ew,.v (x.seq:Int),.i x.dK,.v (x.ep:Int),.slice r.sa x.stamp.length r.sc,.slice r.ea x.dB.length r.ec,.u (x.cl:Int)] 40)).alloc (.cells #[.I,.V,.I,.V,.n,.n,.U] 40));have dz:cF w w2:=by rw[eS];exact cR (cR (af _ w) _) _
 have g1:w2.heap[w.heap.size]?=some (.cells #[.i x.ew,.v (x.seq:Int),.i x.dK,.v (x.ep:Int),.slice r.sa x.stamp.length r.sc,.slice r.ea x.dB.length r.ec,.u (x.cl:Int)] 40 (0,0)):=by rw[eS];exact(heap_alloc_old _ _ cN).trans (aO w _)
 have g2:w2.heap[w.heap.size+1]?=some (.cells #[.I,.V,.I,.V,.n,.n,.U] 40 (0,0)):=by
  have:=aO (w.alloc (.cells #[.i x.ew,.v (x.seq:Int),.i x.dK,.v (x.ep:Int),.slice r.sa x.stamp.length r.sc,.slice r.ea x.dB.length r.ec,.u (x.cl:Int)] 40)) (.cells #[.I,.V,.I,.V,.n,.n,.U] 40);rw[ah] at this;rw[eS];exact this
 have hs2:w2.heap.size=w.heap.size+2:=by rw[eS];simp
 have HC:=cE (lH w2 r.sa r.sc lo x.stamp cL (h.stamp.below dz));have HW:=cE (cD eS (cD dz (cD g1 (cD g2 hs2))));have HI:=cE (cD h (cD hl1 (cD hl2 (cD hd hLl))));obtain⟨ns,oV⟩:∃n,n=x.stamp.length:=⟨_,rfl⟩;obtain⟨ne,hne⟩:∃n,n=x.dB.length:=⟨_,rfl⟩;have HN:=cE (cD oV hne);have c4:w2.cell? ⟨w.heap.size,4,none⟩=some (.slice r.sa ns r.sc):=by rw[oV];exact aM _ _ 4 _ 40 (0,0) g1
 rw[←oV] at HC;clear h hl1 hl2 hd hLl eS dz g1 g2 hs2;unfold eN cT;rw[←oV,←hne] at HW⊢;clear oV hne;go_enter func107,ntmps107
 go_wp2_with (rw[←HW.out.1])
 refine HC.out.mono ?_;rintro e w3 C8;obtain⟨a1,c1,rfl,kU,LQ,eE⟩:=C8.sl;rw[←HN.out.1] at kU⊢;have k3:w3.heap[w.heap.size]?=some (.cells #[.i x.ew,.v (x.seq:Int),.i x.dK,.v (x.ep:Int),.slice r.sa ns r.sc,.slice r.ea ne r.ec,.u (x.cl:Int)] 40 (0,0)):=(eE.block _ (by have:=HW.out.2.2.2.2;omega)).trans HW.out.2.2.1;have d4:w3.cell? ⟨w.heap.size,4,none⟩=some (.slice r.sa ns r.sc):=aM _ _ 4 _ 40 (0,0) k3;have f4:w3.frozen? ⟨w.heap.size,4,none⟩=false:=by simp[cu,k3]
 obtain⟨w4,lP⟩:=cG (w3.setCell ⟨w.heap.size,4,none⟩ (.slice a1 ns c1));have k4:w4.heap[w.heap.size]?=some (.cells #[.i x.ew,.v (x.seq:Int),.i x.dK,.v (x.ep:Int),.slice a1 ns c1,.slice r.ea ne r.ec,.u (x.cl:Int)] 40 (0,0)):=by
  rw[lP,heap_setCell_same w3 w.heap.size 4 _ 40 _ k3];rfl
 have d5:w4.cell? ⟨w.heap.size,5,none⟩=some (.slice r.ea ne r.ec):=aM _ _ 5 _ 40 (0,0) k4;have ZK:Kept (·=w.heap.size) w3 w4:=by rw[lP];exact(Kept.refl (·=w.heap.size) w3).setCell (p:=⟨w.heap.size,4,none⟩) rfl _
 have hb4:cF w w4:=(HW.out.2.1.trans (eE.mono HW.out.2.1.size)).trans (ZK.below (by have:=HW.out.2.1.size;have:=eE.size;omega) (fun b e=>by have e:b=w.heap.size:=e;omega));have HE:=cE (MC w4 r.ea r.ec L (by have:=HI.out.2.2.1;have:=HI.out.2.2.2.2;omega) ((HI.out.1.row.below hb4).mono hb4.size));rw[HI.out.2.2.2.2,←HN.out.2] at HE;have Kc:=cE lP;have H4:=cE (cD k3 (cD k4 (cD eE (cD ZK (cD hb4 LQ)))));clear C8 kU k3 lP k4 ZK hb4 LQ eE c4;go_wp2_with (rw[←Kc.out])
 refine HE.out.mono ?_;rintro e w5 ⟨v,rfl,ho5,jE⟩;obtain⟨ga,gc,rfl⟩:=iA ho5;have ZY:L.length=ne:=by rw[HI.out.2.2.2.2,HN.out.2]
 have k5:=(jE.block _ (by have:=H4.out.2.2.2.1.size;have:=H4.out.2.2.1.size;have:=HW.out.2.2.2.2;omega)).trans H4.out.2.1;have f5:w5.frozen? ⟨w.heap.size,5,none⟩=false:=by simp[cu,k5]
 have d5':w5.cell? ⟨w.heap.size,5,none⟩=some (.slice r.ea ne r.ec):=aM _ _ 5 _ 40 (0,0) k5;obtain⟨w6,l6⟩:=cG (w5.setCell ⟨w.heap.size,5,none⟩ (.slice ga L.length gc));have k6:w6.heap[w.heap.size]?=some (.cells #[.i x.ew,.v (x.seq:Int),.i x.dK,.v (x.ep:Int),.slice a1 ns c1,.slice ga L.length gc,.u (x.cl:Int)] 40 (0,0)):=by
  rw[l6,heap_setCell_same w5 w.heap.size 5 _ 40 _ k5];rfl
 have J7:Kept (·=w.heap.size) w5 w6:=by rw[l6];exact(Kept.refl (·=w.heap.size) w5).setCell (p:=⟨w.heap.size,5,none⟩) rfl _
 have afo:w2.heap.size≤w4.heap.size:=by have:=H4.out.2.2.1.size;have:=H4.out.2.2.2.1.size;omega
 have wJ:∀g,(aT ga L.length gc).ownBlock=some g→w4.heap.size≤g∧g<w5.heap.size:=fun g hg=>ho5.lt g hg
 have hO:JN w w2 w6 x L ga gc ⟨a1,c1,none,0⟩ 0:=by
  have aqD:cF w4 w5:=jE;refine⟨⟨L,rfl,(fm ho5 J7 (fun g hg e=>by have e:g=w.heap.size:=e;have:=(wJ g hg).1;have:=HW.out.2.2.2.2;omega)).mono afo,fun i r e hi=>by omega,fun i _=>rfl⟩,by rw[←HN.out.1];exact k6,?_,?_,?_,by have:=HW.out.2.2.2.2;omega,by have:=jE.size;have:=J7.size;omega⟩
  ·have aj5:=HW.out.2.2.2.2
   have h0:=dR HW.out.2.2.2.1 0 7 cN;have h3:=qT h0 H4.out.2.2.1 (by have:=HW.out.2.2.2.2;omega);intro j hj;obtain⟨e1,e2⟩:=h3 j hj;have hlt3:w.heap.size+1<w3.heap.size:=by have:=H4.out.2.2.1.size;have:=HW.out.2.2.2.2;omega
   have q1:=H4.out.2.2.2.1.cell (p:=⟨w.heap.size+1,0+j,none⟩) hlt3 (by show¬(w.heap.size+1=w.heap.size);omega);have q2:=jE.cell (p:=⟨w.heap.size+1,0+j,none⟩) (by show w.heap.size+1<_;omega);have q3:=J7.cell (p:=⟨w.heap.size+1,0+j,none⟩) (by show w.heap.size+1<_;have:=jE.size;omega) (by show¬(w.heap.size+1=w.heap.size);omega);have r1:=H4.out.2.2.2.1.frozen (p:=⟨w.heap.size+1,0+j,none⟩) hlt3 (by show¬(w.heap.size+1=w.heap.size);omega);have r2:=(dm (S:=fun _=>False) jE).frozen (p:=⟨w.heap.size+1,0+j,none⟩) (by show w.heap.size+1<_;omega) (fun e=>e);have r3:=J7.frozen (p:=⟨w.heap.size+1,0+j,none⟩) (by show w.heap.size+1<_;have:=jE.size;omega) (by show¬(w.heap.size+1=w.heap.size);omega);exact⟨by rw[q3,q2,q1];exact e1,by rw[r3,r2,r1];exact e2⟩
  ·have s3:=H4.out.2.2.2.2.2
   have s4:=s3.kept H4.out.2.2.2.1 (fun b hb _ e=>by have e:b=w.heap.size:=e;have hb:w2.heap.size≤b:=hb;have:=HW.out.2.2.2.2;omega);intro k v hk;obtain⟨b,off,z1,z2,z3,z4⟩:=s4 k v hk;have z2:w2.heap.size≤b:=z2;have kA:b≠w.heap.size:=by have:=HW.out.2.2.2.2;omega
   exact⟨b,off,z1,⟨z2,fun e=>by have:=(wJ b e).1;omega⟩,by have:=jE.size;have:=J7.size;omega,(J7.cell (p:=⟨b,off+k,none⟩) (by show b<_;have:=jE.size;omega) kA).trans ((jE.cell (p:=⟨b,off+k,none⟩) z3).trans z4)⟩
  exact(H4.out.2.2.2.2.1.trans (jE.mono H4.out.2.2.2.2.1.size)).trans (J7.below (by have:=jE.size;have:=HW.out.2.2.2.2;omega) (fun b e=>by have e:b=w.heap.size:=e;omega))
 have d6:w6.cell? ⟨w.heap.size,5,none⟩=some (.slice ga ne gc):=by rw[←ZY];exact aM _ _ 5 _ 40 (0,0) k6
 rw[ZY] at l6;have CO:=cE l6;have HO:=cE hO;have HLN:=cE ZY;rw[ZY];have hne:ne≤1000:=by rw[HN.out.2];exact HI.out.2.2.1
 clear hO l6 ZY k5 k6 J7 jE ho5 wJ afo f4 d4 d5;go_wp2_with (rw[←CO.out])
 go_loopw [15] (fun kv wr=>∃j:Nat,j≤ne∧kv=.i j∧Hid (JN w w2 wr x L ga gc ⟨a1,c1,none,0⟩ j)) (fun kv _=>ne - (intOf kv).toNat)
 case atStart=>exact⟨0,by omega,rfl,HO⟩
 obtain⟨j,hj,rfl,HS⟩:=hrel;by_cases hlt:j<ne
 ·have hLj:j<L.length:=by rw[HLN.out];exact hlt
  obtain⟨Lk,QV,how,hlo,hhi⟩:=HS.out.lk;obtain⟨rj,hr⟩:∃r,L[j]?=some r:=⟨_,aa hLj⟩;obtain⟨ej,he⟩:∃e,x.dB[j]?=some e:=⟨_,aa (by rw[←HN.out.2];exact hlt)⟩;have N0:Lk[j]?=some rj:=(hhi j (aC _)).trans hr;have hrd:=HI.out.1.like.2 j _ _ hr he;obtain⟨g,rfl⟩:∃g,ga=some ⟨g,0,none⟩:=by
   rcases how.2 with ⟨h1,h0⟩|⟨g,cap,cur,h1,_⟩
   ·omega
   cases h1;exact⟨g,rfl⟩
  have Uj:=how.lt g rfl;have nN:=HS.out.box;have gM:=HS.out.bl;have hsz:=HS.out.size;have ab3:w.heap.size<wr.heap.size:=by omega
  have y5:∀w',Kept (·=g) wr w'→w'.cell? ⟨w.heap.size,5,none⟩=some (.slice (some ⟨g,0,none⟩) ne gc):=fun w' hk=>by
   rw[←HLN.out];exact(hk.cell (p:=⟨w.heap.size,5,none⟩) ab3 (by show¬(w.heap.size=g);omega)).trans (aM _ _ 5 _ 40 (0,0) nN)
  obtain⟨hrp,eW,XY,hrl,ZA,Zy⟩:=hrd;have hcj:wr.cell? ⟨g,j*11+2,none⟩=some (.slice rj.node.a rj.node.n rj.node.c):=by
   have hjl:j*11+2<L.length*11:=by omega
   rw[how.cellAt (j*11+2) hjl];exact wQ Lk j rj N0 2 _ rfl
  have hdl:ej.node.data.length≤1000000:=HI.out.2.2.2.1 ej (bu he);have HCB:=cE (fun W (hW:cF w W)=>Cn W rj.node.a rj.node.c lo ej.node.data hdl ((ZA.below hW).mono (fun _ h=>h) hW.size) Zy);rw[←hrl] at HCB;have HJ:=cE (cD hr (cD he (cD N0 (cD how (cD hlo hhi)))));have VJ:=cE (cD QV (cD Uj (cD nN (cD gM (cD hsz (cD hrp (cD eW (cD XY hrl))))))));obtain⟨na,hna⟩:∃n,n=rj.node.a:=⟨_,rfl⟩;obtain⟨nn,hnn⟩:∃n,n=rj.node.n:=⟨_,rfl⟩;obtain⟨nc,hnc⟩:∃n,n=rj.node.c:=⟨_,rfl⟩;rw[←hna,←hnn,←hnc] at hcj;rw[←hna,←hnn,←hnc] at HCB;have HNA:=cE (cD hna (cD hnn hnc));have i1:(0:Int)≤j:=by omega
  have i2:(j:Int)<ne:=by omega
  have iY:=cE ab3;clear hna hnn hnc hr he N0 how hlo hhi QV Uj nN gM hsz hrp eW XY hrl ZA Zy hdl ab3 hLj;go_wp2_with fail
  refine rT fun wd hd=>?_
  refine O0 (S':=fun w'=>Kept (·=g) wr w') (fun _ _=>trivial) _ _ _ _ ?_;have hS:Kept (·=g) wr wd:=dm hd;have HWD:=cE hd.size;have hcd:wd.cell? ⟨g,j*11+2,none⟩=some (.slice na nn nc):=(hd.cell (p:=⟨g,j*11+2,none⟩) VJ.out.2.1.2).trans hcj;refine tI 0 rfl hS ?_;refine tJ 1 rfl hS y5 ?_;refine tI 2 rfl hS ?_;refine tI 3 rfl hS ?_;simp only[cQ];refine tJ 4 rfl hS y5 ?_;refine tI 5 rfl hS ?_;refine tI 6 rfl hS ?_;refine tI 7 rfl hS ?_;simp only[cQ];refine tI 8 rfl hS ?_;simp only[cQ];refine gI 9 rfl (.slice na nn nc) _ hS ?_;simp only[cQ];refine cI 10 rfl ?_;refine(HCB.out wd (VJ.out.2.2.2.1.trans (hd.mono VJ.out.2.2.2.1.size))).mono ?_;rintro e wc ⟨a',c',rfl,B3,K3,N3,_⟩;have hdc:cF wr wc:=hd.trans (K3.mono hd.size);have CJ:Kept (·=g) wr wc:=dm hdc;refine⟨CJ,?_⟩;simp only[cQ];refine tI 11 rfl CJ ?_;refine tI 12 rfl CJ ?_;refine tI 13 rfl CJ ?_;simp only[cQ];have abG:=lD HJ.out.2.2.2.1 hdc;have hcc:wc.cell? ⟨g,j*11+2,none⟩=some (.slice na nn nc):=(hdc.cell (p:=⟨g,j*11+2,none⟩) VJ.out.2.1.2).trans hcj;have hfc:wc.frozen? ⟨g,j*11+2,none⟩=false:=abG.frozenAt _;obtain⟨hst,hgr⟩:=abG.stored (j*11+2) (.slice a' nn c');rw[HNA.out.2.1,Ji _ _ _ HJ.out.2.2.1,←HNA.out.2.1] at hst;have Wk:Kept (·=g) wc (wc.setCell ⟨g,j*11+2,none⟩ (.slice a' nn c')):=(Kept.refl (·=g) wc).setCell (p:=⟨g,j*11+2,none⟩) rfl _;have HK9:=cE (cD hst (cD hgr (cD Wk (cD hdc (cD B3 (cD K3 N3))))));refine uI 14 rfl (wc.setCell ⟨g,j*11+2,none⟩ (.slice a' nn c')) (CJ.trans Wk) ?_;simp only[cQ];refine aL cK ?_ _;clear hst hgr Wk hdc B3 K3 N3 CJ hS abG hcc hfc hcd hcj y5;go_wp2
  go_roundw
  case rel=>exact⟨j+1,by omega,by go_num,cE (HS.out.next VJ.out.1 HJ.out.2.2.2.2.1 HJ.out.2.2.2.2.2 HJ.out.1 HJ.out.2.1 VJ.out.2.1.1 VJ.out.2.1.2 wc HK9.out.2.2.2.1 a' c' wd.heap.size (by have:=HK9.out.2.2.2.1.size;exact HWD.out) HK9.out.2.2.2.2.1 HK9.out.2.2.2.2.2.2 VJ.out.2.2.2.2.2.1 VJ.out.2.2.2.2.2.2.1 VJ.out.2.2.2.2.2.2.2.1 VJ.out.2.2.2.2.2.2.2.2 _ HK9.out.2.2.1 HK9.out.1)⟩
  case measure=>simp[intOf];omega
 obtain rfl:ne=j:=by omega
 have t1:decide ((ne:Int)<(ne:Int))=false:=by simp
 have t2:decide (ne<ne)=false:=by simp
 have nN:=HS.out.box;rw[HLN.out,←HN.out.1] at nN;have HR:Hid (wr.rangeAt w.heap.size 0 [.i x.ew,.v (x.seq:Int),.i x.dK,.v (x.ep:Int),.slice a1 ns c1,.slice ga ne gc,.u (x.cl:Int)]):=cE (dD nN);have eY:Hid (cH 40 7):=cE cK;have zP:=cE HS.out.th;have gu:Hid ((#[.i x.ew,.v (x.seq:Int),.i x.dK,.v (x.ep:Int),.slice a1 ns c1,.slice ga ne gc,.u (x.cl:Int)]:Array ay).all (·.oneCell')=true):=cE (by simp[aS]);clear hlt hj nN;go_wp2_with (first
  |(refine wpList_load_mid rfl 40 (.tmp 1) rfl w.heap.size 0 rfl [.i x.ew,.v (x.seq:Int),.i x.dK,.v (x.ep:Int),.slice a1 ns c1,.slice ga ne gc,.u (x.cl:Int)] _ HR.out underlying40 rfl eY.out ?_)
  |(refine wpList_store_mid rfl 40 (.tmp 2) (.tmp 33) rfl (w.heap.size+1) 0 #[.i x.ew,.v (x.seq:Int),.i x.dK,.v (x.ep:Int),.slice a1 ns c1,.slice ga ne gc,.u (x.cl:Int)] rfl rfl zP.out eY.out gu.out ?_)
  |fail)
 refine bodyPost_ret (di rfl _ _ (w.heap.size+1) 0 [.i x.ew,.v (x.seq:Int),.i x.dK,.v (x.ep:Int),.slice a1 ns c1,.slice ga ne gc,.u (x.cl:Int)] _ rfl (aF _ _ _ _ zP.out) underlying40 rfl eY.out) rfl ?_;have hK:=ic wr (w.heap.size+1) 0 [.i x.ew,.v (x.seq:Int),.i x.dK,.v (x.ep:Int),.slice a1 ns c1,.slice ga ne gc,.u (x.cl:Int)];obtain⟨Lk,QV,how,hlo,_⟩:=HS.out.lk;have hsz:=HS.out.size;have afH:wr.ownsRow w2.heap.size 93 11 (.slice ga Lk.length gc) Lk.length (Lk.flatMap cZ.cells):=by rw[QV];exact how
 obtain⟨ga',gc',hgv,hE,hEn,_⟩:=zz afH;cases hgv;have hle:Lk.length=x.dB.length:=QV.trans HI.out.2.2.2.2;refine⟨⟨a1,c1,ga,gc⟩,Lk,by rw[HN.out.1,HN.out.2],⟨?_,⟨hle,fun i r' e hi hee=>?_⟩,fun k q hq=>?_,?_⟩,fun ad e=>an (afH.lt ad.block (by have e:ga=some ad:=e;rw[e];rfl)).2 hK.size,HS.out.bl.trans (hK.below HS.out.bl.size (fun b e=>by have e:b=w.heap.size+1:=e;omega))⟩
 ·exact(HS.out.st.kept hK (fun b hb _ e=>by have hb:=hb.1;have e:b=w.heap.size+1:=e;omega)).mono (fun b _ hb=>by have hb:=hb.1;show w.heap.size≤b;omega)
 ·have hil:i<ne:=by rw[HN.out.2,←hle];exact(aq.1 hi).1
  obtain⟨z1,z2,z3⟩:=hlo i r' e hil hi hee;exact⟨z1,z2,z3.num,z3.len,(z3.data.kept hK (aC _) (fun b hb _ _ e=>by have hb:=hb.1;have e:b=w.heap.size+1:=e;omega)).mono (fun b hb=>by have hb:=hb.1;show w.heap.size≤b;omega) hK.size,z3.nil⟩
 ·obtain⟨b,off,e1,e2,e3⟩:=hE k q hq
  have hb:=hEn _ e1;exact⟨b,off,e1,an e2 hK.size,fun i u hu=>(hK.cell (p:=⟨b,off+k*11+i,none⟩) e2 (fun e=>by have e:b=w.heap.size+1:=e;have hb:w2.heap.size≤b:=hb;omega)).trans (e3 i u hu)⟩
 intro ad e;have:=hEn ad e;show w.heap.size≤_;omega
attribute [local go_sem] Oper.semAt_some
theorem PX(W:ag)(x:gK)(q:dS)(hb hv:Nat)(h:aH W hb 36 (.v hv)):
  aA prog 106 #[eN x q,.p hb] W fun e w'=>e=.returned (.bool (decide (hv<x.seq)))∧cF W w':=by
 obtain⟨w1,hw1,de,hs1,kH⟩:=dO W (cT x q) 40;have c1:w1.cell? ⟨W.heap.size,1,none⟩=some (.v x.seq):=kH w1 (af _ _) 1 _ rfl;have c2:w1.cell? ⟨hb,0,none⟩=some (.v hv):=(de.cell (p:=⟨hb,0,none⟩) h.lt).trans h.cell;have HW:=cE (cD hw1 de);clear hw1 de hs1 kH h;unfold eN cT;unfold cT at HW;go_enter func106,ntmps106
 go_wp2_with (rw[←HW.out.1])
 go_ret
 exact⟨rfl,HW.out.2⟩
def KN(n₁ bo:Nat)(W W':ag):Prop:=Kept (fun b=>b=bo∨n₁≤b) W W'
section
variable{α:Type}(f:α→gK×dS)
def gZ(hv:Nat)(I:List α)(k:Nat):List α:=(I.take k).filter fun x=>decide (hv<(f x).1.seq)
theorem DT{hv:Nat}{I:List α}{k:Nat}{x:α}(h:I[k]?=some x)(hx:decide (hv<(f x).1.seq)=true):gZ f hv I (k+1)=gZ f hv I k++[x]:=by
 unfold gZ;rw[List.take_add_one,h,bF];simp at hx;simp[hx]
theorem Lc{hv:Nat}{I:List α}{k:Nat}{x:α}(h:I[k]?=some x)(hx:decide (hv<(f x).1.seq)=false):gZ f hv I (k+1)=gZ f hv I k:=by
 unfold gZ;rw[List.take_add_one,h,bF];simp at hx;simp[hx]
theorem PB(hv:Nat)(I:List α)(k:Nat):(gZ f hv I k).length≤k:=by
 unfold gZ;refine aJ (List.length_filter_le _ _) ?_;rw[List.length_take];omega
theorem PA(hv:Nat)(I:List α)(k d:Nat):gZ f hv I k <+: gZ f hv I (k+d):=by
 unfold gZ;have h:I.take (k+d)=I.take k++(I.drop k).take d:=List.take_add;rw[h,bF];exact List.prefix_append _ _
end
section
variable{F:Fence}{n:Nat}{P:Program}{ops:Array Oper}{rest:List Oper}{op:Oper}{a:Act}{w:World}{Q:Exit→Act→World→Prop}
theorem jJ(hF:∀f,F.fn f)(hgd:bX op (yielded ops a.tmps)=true)(ty:bN)(x:Operand)(ho:op.op=.load ty x)
  (b o:Nat) (hx:a.eval x=.pointer (some ⟨b,o,none⟩)) (cs:List ay) (d:TypeDesc) (hc:w.rangeAt b o cs)
  (hu:P.underlying ty=some d) (hd:d.isRow=true) (hi:(P.info? ty).map (·.size)=some cs.length)
  (h:wpListIn F n P ops Q rest (a.put op.dst (.agg cs.toArray)) w):wpListIn F n P ops Q (op::rest) a w:=
 wpListIn_step fun K hK=>by
  rw[if_pos hgd];refine⟨fun f _=>hF f,?_⟩;rw[Oper.semAt_eq _ _ _ (fun c e=>by rw[ho] at e;cases e)];unfold execOp;simp only[ho,hx,Instr.loadAt,bW,bK,bJ,bA,run_loadVar_mid w b o ty cs d hc hu hd hi];exact hK _ _ h
theorem lz(hF:∀f,F.fn f)(hgd:bX op (yielded ops a.tmps)=true)(ty:bN)(x y:Operand)(ho:op.op=.store ty x y)
  (b o:Nat) (cells:Array ay) (hx:a.eval x=.pointer (some ⟨b,o,none⟩)) (hy:a.eval y=.agg cells)
  (ht:w.there b o cells.size) (hi:(P.info? ty).map (·.size)=some cells.size) (h1:cells.all (·.oneCell')=true)
  (h:wpListIn F n P ops Q rest (a.put op.dst aI) (w.setCells b o cells.toList)):wpListIn F n P ops Q (op::rest) a w:=
 wpListIn_step fun K hK=>by
  rw[if_pos hgd];refine⟨fun f _=>hF f,?_⟩;rw[Oper.semAt_eq _ _ _ (fun c e=>by rw[ho] at e;cases e)];unfold execOp;simp only[ho,hx,hy,Instr.storeAt,bW,bK,bJ,bA,run_storeVar_mid w b o ty cells ht hi h1];exact hK _ _ h
end
theorem acA{α:Type}(f:α→gK×dS)(n l n₁ bo Bl Bw hb ob oo oc hv N:Nat)(I:List α)(hN:I.length≤N)(hlen:I.length≤1000000)(J Jx:List α→ag→Prop)
  (hY:∀pre x W,J pre W→pre.length<N→YieldAt aaf (n - 1) prog l #[eN (f x).1 (f x).2] W fun e W'=>
   (e=.returned (.T)∧J (pre++[x]) W'∧KN n₁ bo W W')∨(e=.returned (.F)∧Jx (pre++[x]) W'))
  (W:ag) (hJ:AbidesFrom W.heap.size J) (h1:aH W Bl 52 (.slice (some ⟨ob,oo,none⟩) I.length oc)) (h2:aH W Bw 71 (.func (.func 106) #[] #[.p hb]))
  (h3:aH W hb 36 (.v hv)) (hrow:∀(j:Nat) x,I[j]?=some x→W.rangeAt ob (oo+j*7) (cT (f x).1 (f x).2)) (hn:n₁≤W.heap.size)
  (l1:Bl<n₁∧Bl≠bo) (l2:Bw<n₁∧Bw≠bo) (l3:hb<n₁∧hb≠bo) (l4:ob<n₁∧ob≠bo) (h0:J [] W):
  CallsIn aaf n prog 200 #[.func (.yield l) #[] #[],.p Bl,.p Bw] W fun e W'=>(∃v,e=.returned v)∧
   ((∃ys,ys=gZ f hv I I.length∧J ys W')∨(∃pre,pre <+: gZ f hv I I.length∧Jx pre W')):=by
 obtain⟨k,hk⟩:=cG I.length;have hc1:=h1.cell;rw[←hk] at hc1 hN hlen⊢;have HK:=cE hk;have HH:=cE (cD h1 (cD h2 (cD h3 (cD hrow (cD hn (cD l1 (cD l2 (cD l3 l4))))))));have RG:=cE (cD hJ hY);clear hk h1 h2 h3 hrow hJ hY hn l1 l2 l3 l4;refine callsIn_of_wp func200 rfl trivial ?_ rfl;simp only[ntmps200,aV,aN,bq,bC,bB,aQ,aP,aW,aR,bh,aZ];gi_wp2
 gi_loopw [8] (fun p wr=>∃i:Nat,i≤k∧p=.i i∧KN n₁ bo W wr∧J (gZ f hv I i) wr)
  (fun p _=>k - (intOf p).toNat)
 case atStart=>exact⟨0,by omega,rfl,Kept.refl _ _,h0⟩
 obtain⟨i,hi,rfl,hKN,CL⟩:=hrel;have hF:∀f,Fence.wide.fn f:=fun _=>trivial
 by_cases hlt:i<k
 ·obtain⟨z,hx⟩:∃x,I[i]?=some x:=⟨_,aa (by rw[←HK.out];exact hlt)⟩
  obtain⟨⟨x,q⟩,hfz⟩:∃p,p=f z:=⟨_,rfl⟩;have TX:=HH.out.2.2.2.1 i _ hx;rw[←hfz] at TX;have HFZ:=cE hfz;have hsz:=hKN.size;have Aq:=HH.out.2.2.2.2.1;have hrw:wr.rangeAt ob (oo+i*7) (cT x q):=fun j u hu=>(hKN.cell (p:=⟨ob,oo+i*7+j,none⟩) (by show ob<_;have:=HH.out.2.2.2.2.2.2.2.2.1;omega) (by have:=HH.out.2.2.2.2.2.2.2.2;show¬(ob=bo∨n₁≤ob);omega)).trans (TX j u hu)
  obtain⟨w1,hw1⟩:=cG (wr.alloc (.cells #[.I,.V,.I,.V,.n,.n,.U] 40));have hbk:w1.heap[wr.heap.size]?=some (.cells #[.I,.V,.I,.V,.n,.n,.U] 40 (0,0)):=by rw[hw1];exact aO wr _
  have zP:Hid (w1.there wr.heap.size 0 7):=cE (dR hbk 0 7 cN);have QO:cF wr w1:=by rw[hw1];exact cR (af _ _) _
  obtain⟨w2,eS⟩:=cG (w1.setCells wr.heap.size 0 (cT x q));have afv:w2.rangeAt wr.heap.size 0 (cT x q):=by rw[eS];exact aF _ _ _ _ (by show w1.there wr.heap.size 0 7;exact zP.out)
  have dz:cF wr w2:=by rw[eS];exact QO.trans ((ic w1 wr.heap.size 0 _).below QO.size (fun b e=>by have e:b=wr.heap.size:=e;omega))
  have HGD:=cE (cD hw1 eS);have Dr:=cE (cD hrw afv);have HB:=cE (cD hKN (cD hx (cD dz CL)));have eY:Hid (cH 40 7):=cE cK;have gu:Hid ((cT x q).toArray.all (·.oneCell')=true):=cE (by simp[cT,aS]);have i1:(0:Int)≤i:=by omega
  have i2:(i:Int)<k:=by omega
  have hcw:w2.cell? ⟨Bw,0,none⟩=some (.func (.func 106) #[] #[.p hb]):=by
   have e1:=HH.out.2.1;have e2:=HH.out.2.2.2.2.2.2.1;exact(dz.cell (p:=⟨Bw,0,none⟩) (by show Bw<_;omega)).trans ((hKN.cell (p:=⟨Bw,0,none⟩) (by show Bw<_;omega) (by show¬(Bw=bo∨n₁≤Bw);omega)).trans e1.cell)
  have hhb:aH w2 hb 36 (.v hv):=by
   have e1:=HH.out.2.2.1;have e2:=HH.out.2.2.2.2.2.2.2.1;exact(dz.block _ cL).trans ((hKN.block _ cL (by show¬(hb=bo∨n₁≤hb);omega)).trans e1)
  have Ay:=cE (PX w2 x q hb hv hhb);obtain⟨hit,LV⟩:∃b,b=decide (hv<x.seq):=⟨_,rfl⟩;rw[←LV] at Ay;have M1:=cE LV;unfold eN at Ay;unfold cT at Dr HGD gu Ay;clear TX hfz hrw hw1 hbk QO eS afv dz hKN hx CL hhb LV hsz Aq;gi_wp2_with (first
   |(refine jJ (fun _=>trivial) cO 40 (.tmp 10) rfl ob (oo+i*7) rfl [.i x.ew,.v (x.seq:Int),.i x.dK,.v (x.ep:Int),.slice q.sa x.stamp.length q.sc,.slice q.ea x.dB.length q.ec,.u (x.cl:Int)] _ Dr.out.1 underlying40 rfl eY.out ?_)
   |(rw[←HGD.out.1];refine lz (fun _=>trivial) cO 40 (.tmp 5) (.tmp 11) rfl wr.heap.size 0 #[.i x.ew,.v (x.seq:Int),.i x.dK,.v (x.ep:Int),.slice q.sa x.stamp.length q.sc,.slice q.ea x.dB.length q.ec,.u (x.cl:Int)] rfl rfl zP.out eY.out gu.out ?_;rw[←HGD.out.2])
   |(refine jJ (fun _=>trivial) cO 40 (.tmp 5) rfl wr.heap.size 0 rfl [.i x.ew,.v (x.seq:Int),.i x.dK,.v (x.ep:Int),.slice q.sa x.stamp.length q.sc,.slice q.ea x.dB.length q.ec,.u (x.cl:Int)] _ Dr.out.2 underlying40 rfl eY.out ?_)
   |fail)
  refine⟨(fun h=>(by cases h)),?_⟩;refine(aU.2 Ay.out).mono ?_;rintro e w3 ⟨rfl,eE⟩;have iI:cF wr w3:=HB.out.2.2.1.trans (eE.mono HB.out.2.2.1.size);have BL:W.heap.size≤wr.heap.size:=HB.out.1.size;have QW:J (gZ f hv I i) w3:=RG.out.1 _ _ _ none HB.out.2.2.2 ⟨iI.os,iI.tape,iI.output,iI.size,fun b hb _=>iI.block b hb⟩ (fun _ e=>by cases e);have J9:KN n₁ bo W w3:=HB.out.1.trans (dm iI);have ED:w3.rangeAt wr.heap.size 0 [.i x.ew,.v (x.seq:Int),.i x.dK,.v (x.ep:Int),.slice q.sa x.stamp.length q.sc,.slice q.ea x.dB.length q.ec,.u (x.cl:Int)]:=dA Dr.out.2 eE (by have:=HB.out.2.2.1.size;have:=cB _ _ (Dr.out.2 0 _ rfl);exact this);have H3:=cE (cD QW (cD J9 ED));clear eE iI BL QW J9 ED hcw;cases hit with
  |false=>
   gi_wp2
   exact⟨⟨i+1,by omega,by go_num,H3.out.2.1,by rw[Lc f HB.out.2.1 (by rw[←HFZ.out];exact M1.out.symm)];exact H3.out.1⟩,by simp[intOf];omega⟩
  |true=>
  have zj:=PB f hv I i;obtain⟨fn,tmps,assign,body,hy,hR⟩:=RG.out.2 _ z _ H3.out.1 cL;rw[←HFZ.out] at hy;unfold eN cT at hy;dsimp only at hy;gi_wp2_with (first
   |(refine jJ (fun _=>trivial) cO 40 (.tmp 5) rfl wr.heap.size 0 rfl [.i x.ew,.v (x.seq:Int),.i x.dK,.v (x.ep:Int),.slice q.sa x.stamp.length q.sc,.slice q.ea x.dB.length q.ec,.u (x.cl:Int)] _ H3.out.2.2 underlying40 rfl eY.out ?_)
   |fail)
  refine⟨(fun h=>(by cases h)),?_⟩;refine hR.mono ?_;rintro e W4 (⟨rfl,hJ4,ZK⟩|⟨rfl,ali⟩)
  ·gi_wp2
   exact⟨⟨i+1,by omega,by go_num,H3.out.2.1.trans ZK,by rw[DT f HB.out.2.1 (by rw[←HFZ.out];exact M1.out.symm)];exact hJ4⟩,by simp[intOf];omega⟩
  gi_wp2
  refine bodyPost_ret (results_none rfl _ _ _) rfl ?_;have hr:=PA f hv I (i+1) (k - (i+1));rw[show i+1+(k - (i+1))=k by omega,DT f HB.out.2.1 (by rw[←HFZ.out];exact M1.out.symm)] at hr;exact⟨⟨_,rfl⟩,.inr ⟨_,hr,ali⟩⟩
 have hc2:decide ((i:Int)<(k:Int))=false:=by simp;omega
 have hc3:decide (i<k)=false:=by simp;omega
 gi_wp2
 go_end0
 obtain rfl:i=k:=by omega
 exact⟨⟨_,rfl⟩,.inl ⟨_,by rw[HK.out],CL⟩⟩
theorem acz{α:Type}(n l Bl Bw:Nat)(v:ay)(J Jx:List α→ag→Prop)(W:ag)(h1:aH W Bl 52 (.n))(h0:J [] W):
  CallsIn aaf n prog 200 #[.func (.yield l) #[] #[],.p Bl,v] W fun e W'=>(∃v,e=.returned v)∧
   ((∃ys,ys=([]:List α)∧J ys W')∨(∃pre,pre <+: ([]:List α)∧Jx pre W')):=by
 have hc1:=h1.cell;have H0:=cE h0;clear h1 h0;refine callsIn_of_wp func200 rfl trivial ?_ rfl;simp only[ntmps200,aV,aN,bq,bC,bB,aQ,aP,aW,aR,bh,aZ];gi_wp2
 gi_loopw [8] (fun p wr=>p=.I∧Hid (J [] wr)) (fun p _=>1)
 case atStart=>exact⟨rfl,H0⟩
 obtain⟨rfl,HS⟩:=hrel;gi_wp2
 go_end0
 exact⟨⟨_,rfl⟩,.inl ⟨_,rfl,HS.out⟩⟩
theorem Om(w:ag)(a:Option bG)(n c:Nat)(f:FuncId)(cp:Array ay):
  aA prog 105 #[.slice a n c,.func (.func f) #[] cp] w fun e w'=>e=.returned (.func (.func 200) #[] #[.p w.heap.size,.p (w.heap.size+1)])∧w'=(w.alloc (.cells #[.slice a n c] 52)).alloc (.cells #[.func (.func f) #[] cp] 71):=by
 go_enter func105,ntmps105
 go_wp2
 go_ret
 exact⟨rfl,rfl⟩
def sg(w:ag)(b:Nat):Prop:=∃cs t fr,w.heap[b]?=some (.cells cs t fr)
theorem yF{w:ag}{b o:Nat}{v:ay}(h:w.cell? ⟨b,o,none⟩=some v):sg w b:=by
 unfold bL at h;split at h
 ·rename_i cs t fr e
  exact⟨_,_,_,e⟩
 simp at h
theorem dr.MI{w:ag}{lo:Nat→Prop}{a:Option bG}{V:List Nat}(h:dr w lo a V):dr w (fun b=>lo b∧sg w b) a V:=fun k v hk=>by
 obtain⟨b,off,e1,e2,e3,e4⟩:=h k v hk;exact⟨b,off,e1,⟨e2,yF e4⟩,e3,e4⟩
theorem eB.MI{w:ag}{lo:Nat→Prop}{hi:Nat}{a:Option bG}{D:cP}(h:eB w lo hi a D):eB w (fun b=>lo b∧sg w b) hi a D:=fun k v hk=>by
 obtain⟨b,off,e1,e2,e3,e4⟩:=h k v hk;exact⟨b,off,e1,⟨e2,yF e4⟩,e3,e4⟩
theorem eu.jX{w w':ag}{lo S:Nat→Prop}{r:dS}{L:List cZ}{x:gK}(h:eu w lo r L x)(hk:Kept S w w')(hS:∀b,lo b→sg w b→¬S b):eu w' lo r L x:=by
 refine⟨(h.stamp.MI.kept hk (fun b hb _=>hS b hb.1 hb.2)).mono (fun b _ hb=>hb.1),⟨h.like.1,fun k q e h1 h2=>?_⟩,fun k q hq=>?_,h.new⟩
 ·obtain⟨g1,g2,g3⟩:=h.like.2 k q e h1 h2
  exact⟨g1,g2,g3.num,g3.len,(g3.data.MI.kept hk (aC _) (fun b hb _ _=>hS b hb.1 hb.2)).mono (fun b hb=>hb.1) hk.size,g3.nil⟩
 obtain⟨b,off,e1,e2,e3⟩:=h.row k q hq;have hc:sg w b:=yF (e3 0 _ cO);exact⟨b,off,e1,an e2 hk.size,fun j v hv=>(hk.cell (p:=⟨b,off+k*11+j,none⟩) e2 (hS b (h.new _ e1) hc)).trans (e3 j v hv)⟩
theorem vT{w:ag}{base size n:Nat}{e:bN}{v:ay}{xs:List ay}(h:w.ownsRow base e size v n xs){g:Nat}(hg:v.ownBlock=some g):∃cur,w.heap[g]?=some (.cells cur e (0,0)):=by
 rcases h.2 with ⟨e1,_⟩|⟨g',cap,cur,e1,_,h2,_⟩
 ·rw[e1] at hg;cases hg
 rw[e1] at hg;have:g'=g:=by cases hg;rfl
 subst this;exact⟨cur,h2⟩
theorem eu.bound{w:ag}{lo:Nat→Prop}{r:dS}{L:List cZ}{x:gK}(h:eu w lo r L x)(he:∀ad,r.ea=some ad→ad.block<w.heap.size):eu w (fun b=>lo b∧b<w.heap.size) r L x:=
 ⟨h.stamp.mono (fun b h1 h2=>⟨h2,h1⟩),h.like.both (fun b h1 h2=>⟨h1,h2⟩),h.row,fun ad e=>⟨h.new ad e,he ad e⟩⟩
def xw(w:ag)(bo:Nat)(pre:List (gK×dS))(W:ag):Prop:=
 ∃(v:ay) (C:List (dS×List cZ)),C.length=pre.length∧aH W bo 52 v∧W.ownsRow (w.heap.size+4) 40 7 v pre.length ((pre.zip C).flatMap fun p=>cT p.1.1 p.2.1)∧
  (∀(i:Nat) x c,pre[i]?=some x→C[i]?=some c→eu W (fun b=>w.heap.size≤b∧v.ownBlock≠some b∧b≠bo) c.1 c.2 x.1∧∀ad,c.1.ea=some ad→ad.block<W.heap.size)∧cF w W
theorem pH(w:ag)(bo B:Nat)(hB:w.heap.size≤B):OwnFrom B (xw w bo):=by
 rintro s X Y row ⟨v,C,h1,hv,hr,hI,hb⟩ hg hrow;have hk:=fT hg;have hne:∀b,sg X b→¬row=some b:=fun b ⟨cs,t,fr,hc⟩ e=>by
  obtain⟨_,o,ho,hno⟩:=hrow b e;rw[hc] at ho;cases ho;cases hno
 have hbo:sg X bo:=⟨_,_,_,hv⟩;refine⟨v,C,h1,hv.kept hg (fun e=>hne bo hbo e.symm),fm hr hk (fun g hg' e=>?_),fun i x c hx hc=>⟨(hI i x c hx hc).1.jX hk (fun b _ hc=>hne b hc),fun ad e=>an ((hI i x c hx hc).2 ad e) hk.size⟩,hb.grown hg hb.size (fun g e=>aJ hB (hrow g e).1)⟩;rcases hr.2 with ⟨rfl,_⟩|⟨g',cap,cur,rfl,_,EF,_⟩
 ·cases hg'
 cases hg';exact hne _ ⟨_,_,_,EF⟩ e
theorem Ec{w W:ag}{bo:Nat}(hv:aH W bo 52 (.n))(hb:cF w W):xw w bo [] W:=
 ⟨_,[],rfl,hv,aag _ _ _ _,fun i x c hx=>by simp at hx,hb⟩
theorem Iw{w W W':ag}{bo:Nat}{pre:List (gK×dS)}(h:xw w bo pre W)(hb:cF W W'):xw w bo pre W':=
 pH w bo w.heap.size (aC _) pre W W' none h ⟨hb.os,hb.tape,hb.output,hb.size,fun b hl _=>hb.block b hl⟩ (fun r e=>by cases e)
theorem mw{B:Nat}{W W':ag}(hb:cF W W'):KeepsFrom B W W':=⟨hb.size,fun k o _ ho _=>(hb.block k (Array.getElem?_eq_some_iff.1 ho).1).trans ho⟩
attribute [local go_sem] Oper.semAt_some
def OG(w:ag)(lo:Nat→Prop)(ao:Option bG)(I:List (gK×dS))(C:List (List cZ)):Prop:=
 ∀(k:Nat) x,I[k]?=some x→∃b off,ao=some ⟨b,off,none⟩∧b<w.heap.size∧w.rangeAt b (off+k*7) (cT x.1 x.2)∧∃L,C[k]?=some L∧eu w lo x.2 L x.1
def xx(w:ag)(P:List (gK×dS))(e:Ending)(w':ag):Prop:=
 ∃(v:ay) (C:List (dS×List cZ)),e=.returned v∧C.length=P.length∧w'.ownsRow w.heap.size 40 7 v P.length ((P.zip C).flatMap fun p=>cT p.1.1 p.2.1)∧
  (∀(i:Nat) x c,P[i]?=some x→C[i]?=some c→eu w' (fun b=>w.heap.size≤b∧v.ownBlock≠some b) c.1 c.2 x.1)∧cF w w'
theorem I7:(prog.info? 40).map (fun i=>(i.zero,i.size,i.bytes))=some (some (.agg #[.I,.V,.I,.V,.n,.n,.U]),7,88):=by kernel_rfl
theorem xU{α:Type}(f:α→gK×dS)(hv:Nat)(I:List α)(k:Nat):(gZ f hv I k).map f=gZ id hv (I.map f) k:=by
 unfold gZ;rw[←List.map_take,List.filter_map];rfl
theorem pJ{P:Program}{oi:Oper}{a:Act}{w:ag}(ty:bN)(x:Operand)(ho:oi.op=.load ty x)(b o:Nat)(hx:a.eval x=.pointer (some ⟨b,o,none⟩))(cs:List ay)(d:TypeDesc)(hc:w.rangeAt b o cs)
  (hu:P.underlying ty=some d) (hd:d.isRow=true) (hi:(P.info? ty).map (·.size)=some cs.length):(execOp a.eval oi).run P w=.ok (.value (.agg cs.toArray)) w:=by
 unfold execOp;simp only[ho,hx,Instr.loadAt,bW,bK,bJ,bA,run_loadVar_mid w b o ty cs d hc hu hd hi]
theorem mj{F:Fence}{n:Nat}{P:Program}{o:Oper}{a:Act}{w:ag}{K:Act→ag→Prop}{Q:Exit→Act→ag→Prop}(s x:Operand)(t:bN)
  (hop:o.op=Op.call {callee:=Callee.builtin Builtin.append,args:=#[s,x],argTypes:=#[t,t]})
  (v u v':ay) (w':ag) (hs:a.eval s=v) (hx:a.eval x=u) (hr:(Builtin.append_ #[t,t] o.type #[v,u]).run P w=.ok v' w') (hK:K (a.put o.dst v') w'):Oper.wpIn F n P o a w K Q:=by
 unfold Oper.wpIn;refine⟨?_,?_⟩
 ·simp[Oper.about,hop,resolve,Target.leads,bJ]
 rw[Oper.semAt_plain F _ _ (by rw[hop];intro c hc';cases hc')];simp[execOp,hop,resolve,invoke,builtin,hs,hx,hr,bQ];exact hK
theorem Iu(w:ag)(ob oo oc hv:Nat)(I:List (gK×dS))(C0:List (List cZ))(lo:Nat→Prop)(hI:OG w lo (some ⟨ob,oo,none⟩) I C0)(hlen:I.length≤1000000)(Wi:ob<w.heap.size)
  (hs:∀x∈I,x.1.stamp.length≤1000∧x.1.dB.length≤1000∧∀e∈x.1.dB,e.node.data.length≤1000000):
  aA prog 47 #[.slice (some ⟨ob,oo,none⟩) I.length oc,.v hv] w (xx w ((gZ id hv I I.length).take 8)):=by
 have HI:=cE (cD hI (cD hlen (cD Wi hs)));obtain⟨k,hk⟩:=cG I.length;have HK:=cE hk;rw[←hk];clear hI hlen Wi hs hk;refine(aU (n:=2)).1 ?_;refine callsIn_of_wp_marks func47 rfl trivial ?_ rfl;simp only[ntmps47,aV,aN,bq,bC,bB,aQ,aP,aW,aR,bh,aZ];gi_wp2_with fail
 refine⟨trivial,?_⟩;refine(aU.2 (Om _ _ _ _ _ _)).mono ?_;rintro e w' ⟨rfl,rfl⟩;gi_wp2
 obtain⟨W0,xG⟩:∃W0,((((w.alloc (.cells #[.v hv] 36)).alloc (.cells #[.n] 52)).alloc (.cells #[.slice (some ⟨ob,oo,none⟩) k oc] 52)).alloc (.cells #[.func (.func 106) #[] #[.p w.heap.size]] 71))=W0:=⟨_,rfl⟩;have b1:=(((au w 36 (.v hv)).alloc (.cells #[.n] 52)).alloc (.cells #[.slice (some ⟨ob,oo,none⟩) k oc] 52)).alloc (.cells #[.func (.func 106) #[] #[.p w.heap.size]] 71);have b2:=((au (w.alloc (.cells #[.v hv] 36)) 52 (.n)).alloc (.cells #[.slice (some ⟨ob,oo,none⟩) k oc] 52)).alloc (.cells #[.func (.func 106) #[] #[.p w.heap.size]] 71);have b3:=(au ((w.alloc (.cells #[.v hv] 36)).alloc (.cells #[.n] 52)) 52 (.slice (some ⟨ob,oo,none⟩) k oc)).alloc (.cells #[.func (.func 106) #[] #[.p w.heap.size]] 71);have b4:=au (((w.alloc (.cells #[.v hv] 36)).alloc (.cells #[.n] 52)).alloc (.cells #[.slice (some ⟨ob,oo,none⟩) k oc] 52)) 71 (.func (.func 106) #[] #[.p w.heap.size]);rw[ah] at b2;rw[ah,ah] at b3;rw[ah,ah,ah] at b4;rw[xG] at b1 b2 b3 b4⊢;have hs0:W0.heap.size=w.heap.size+4:=by rw[←xG];simp
 have wL:cF w W0:=by rw[←xG];exact cR (cR (cR (cR (af _ w) _) _) _) _
 have iY:=cE (cD b1 (cD b2 (cD b3 (cD b4 (cD hs0 wL)))));clear xG b1 b2 b3 b4 hs0 wL;refine wpIn_rangeFunc_ownH (α:={x:gK×dS // x∈I}) rfl cL (gf:=200) (lb:=#[.p (w.heap.size+1+1),.p (w.heap.size+1+1+1)]) rfl trivial (cq func200 cK rfl)
  (encs:=fun x=>#[eN x.1.1 x.1.2]) (Kp:=KN (w.heap.size+4) (w.heap.size+1)) (S:=fun ys=>ys=gZ aj hv I.attach I.attach.length) (Sp:=fun pre=>pre <+: gZ aj hv I.attach I.attach.length) (N:=1000001) (w0:=W0) ?seq
  (fun h k=>h.trans k) ?kb (af _ _) (fun _=>rfl)
  (fun pre W=>xw w (w.heap.size+1) (pre.map aj) W∧pre.length<8∧w.heap.size+4≤W.heap.size) (fun c pre W=>c=.exit 0∧xw w (w.heap.size+1) (pre.map aj) W∧pre.length=8)
  (fun s A B row hs hg hr=>⟨pH w _ _ (by have:=iY.out.2.2.2.2.1;omega) _ A B row hs.1 hg hr,hs.2.1,aJ hs.2.2 hg.size⟩)
  (fun c s A B row hs hg hr=>⟨hs.1,pH w _ _ (by have:=iY.out.2.2.2.2.1;omega) _ A B row hs.2.1 hg hr,hs.2.2⟩)
  ⟨Ec iY.out.2.1 iY.out.2.2.2.2.2,by simp,by have:=iY.out.2.2.2.2.1;omega⟩
  (fun x a' W=>∃xb,w.heap.size+4≤xb∧W.heap[xb]?=some (.cells (cT x.1.1 x.1.2).toArray 40 (0,0))∧a'={tmps:=#[.slice (some ⟨ob,oo,none⟩) k oc,.v hv,aI,.p w.heap.size,.n,.p (w.heap.size+1),.p xb,.slice (some ⟨ob,oo,none⟩) k oc,.func (.func 106) #[] #[.p w.heap.size],.func (.func 200) #[] #[.p (w.heap.size+1+1),.p (w.heap.size+1+1+1)],eN x.1.1 x.1.2,aI,aI,aI,aI,aI,aI,aI,aI,aI],defers:=[]})
  (fun x a' s A B row hs hg hr=>?ax) ?assign ?body ?done ?stop
 case seq=>
  intro l J Jx W hW hJ hJx hY hJ0;obtain⟨b1,b2,b3,b4,hs0,wL⟩:=iY.out;obtain⟨hI,hlen,Wi,_⟩:=HI.out;have hk:=HK.out;have hB:=wL.trans (hW.mono wL.size);have hws:=hW.size;refine acA aj 1 l (w.heap.size+4) (w.heap.size+1) (w.heap.size+1+1) (w.heap.size+1+1+1) w.heap.size ob oo oc hv 1000001 I.attach (by rw[aD];omega) (by rw[aD];exact hlen) J Jx hY W hJ ?_ ?_ ?_ ?_ cL cL cL cL cL hJ0
  ·rw[aD,←hk];exact(hW.block _ cL).trans b3
  ·exact(hW.block _ cL).trans b4
  ·exact(hW.block _ cL).trans b1
  intro j x hx;have hx2:I[j]?=some x.1:=by
   have h:=congrArg (Option.map aj) hx;rw[←List.getElem?_map,aG] at h;exact h
  obtain⟨b,off,e1,e2,e3,_⟩:=hI j _ hx2;cases e1;exact dA e3 hB Wi
 case kb=>
  intro W l o o' hl ho hc hw;have hs0:=iY.out.2.2.2.2.1;exact⟨rfl,rfl,rfl,by simp[bg],fun b hb hnb=>aB (fun e=>hnb (.inr cL))⟩
 case ax=>
  obtain⟨xb,h1,h2,h3⟩:=hs;refine⟨xb,h1,(hg.block xb (cA h2) (fun e=>?_)).trans h2,h3⟩;obtain⟨_,o,ho,hno⟩:=hr xb e.symm;rw[h2] at ho;cases ho;cases hno
 case assign=>
  rintro l pre ⟨⟨x,q⟩,hxI⟩ W K ⟨hI,BN,BL⟩ hK;obtain⟨W1,zq⟩:=cG (W.alloc (.cells #[.I,.V,.I,.V,.n,.n,.U] 40));have hbk:W1.heap[W.heap.size]?=some (.cells #[.I,.V,.I,.V,.n,.n,.U] 40 (0,0)):=by rw[zq];exact aO W _
  have de:cF W W1:=by rw[zq];exact cR (af _ _) _
  have dz:cF W (W1.setCells W.heap.size 0 (cT x q)):=de.trans ((ic W1 W.heap.size 0 _).below de.size (fun b e=>by have e:b=W.heap.size:=e;omega));have agi:(W1.setCells W.heap.size 0 (cT x q)).heap[W.heap.size]?=some (.cells (cT x q).toArray 40 (0,0)):=fG hbk rfl;have zP:Hid (W1.there W.heap.size 0 7):=cE (dR hbk 0 7 cN);have eY:Hid (cH 40 7):=cE cK;have gu:Hid ((cT x q).toArray.all (·.oneCell')=true):=cE (by simp[cT,aS]);have OM:=cE (hK _ _ (mw dz) (dm dz) ⟨Iw hI dz,BN,aJ BL dz.size⟩ ⟨_,BL,agi,rfl⟩);have me:=cE zq;unfold cT at OM gu;unfold eN cT at OM⊢;dsimp only at OM⊢;clear hK hbk de dz agi zq hI;gi_wp2_with (first
   |(rw[←me.out];refine lz (fun _=>trivial) cO 40 (.tmp 6) (.tmp 10) rfl W.heap.size 0 #[.i x.ew,.v (x.seq:Int),.i x.dK,.v (x.ep:Int),.slice q.sa x.stamp.length q.sc,.slice q.ea x.dB.length q.ec,.u (x.cl:Int)] rfl rfl zP.out eY.out gu.out ?_)
   |fail)
  exact OM.out
 case body=>
  rintro l pre ⟨⟨x,q⟩,hxI⟩ a' W hl hloop ⟨⟨v,C,h1,Dc,hr,hI,hb⟩,BN,BL⟩ ⟨xb,hx1,hx2,rfl⟩ hlt;have y5:∀w',cF W w'→w'.cell? ⟨w.heap.size+1,0,none⟩=some v:=fun w' h=>(h.cell (p:=⟨w.heap.size+1,0,none⟩) Dc.lt).trans Dc.cell
  have y6:∀w',cF W w'→w'.rangeAt xb 0 (cT x q):=fun w' h=>dA (dD hx2) h (cA hx2)
  have eY:Hid (cH 40 7):=cE cK;have OK:Hid (∀w',cF W w'→aA prog 107 #[eN x q] w' fun e w''=>∃r' L',e=.returned (eN x r')∧eu w'' (fQ w'.heap.size) r' L' x∧(∀ad,r'.ea=some ad→ad.block<w''.heap.size)∧cF w' w''):=cE (fun w' h=>by
   obtain⟨k0,hk0⟩:=List.mem_iff_getElem?.1 hxI;obtain⟨_,_,_,_,_,L,_,hit⟩:=HI.out.1 k0 _ hk0;obtain⟨z1,z2,z3⟩:=HI.out.2.2.2 _ hxI;exact O6 w' x q L lo (hit.below (hb.trans (h.mono hb.size))) z1 z2 z3)
  have HF:=cE (cD h1 (cD hr (cD hI (cD hb (cD Dc (cD BN (cD BL (cD hx1 (cD hx2 (cD hl hxI))))))))));have hS:cF W W.drew:=(af _ W).drew;clear h1 hr hI hb Dc BN BL hx1 hx2 hl;unfold eN cT;unfold eN cT at OK;unfold cT at y6;dsimp only;gi_wp2_with fail
  refine fB (S:=fun w'=>cF W w') (c:=4) ?_;refine fI 0 rfl hS (fun w' hS'=>by have:=y5 w' hS';go_simp<;>rfl) ?_;simp only[cQ];refine fI 1 rfl hS (fun w' hS'=>pJ 40 (.tmp 6) rfl xb 0 rfl _ _ (y6 w' hS') underlying40 rfl eY.out) ?_;simp only[cQ];refine fK 2 rfl fun K' gp=>?_
  gi_wp2_with fail
  refine⟨trivial,rfl,(CallsIn.inRound l (aU.2 (OK.out W.drew hS))).mono ?_⟩;rintro e wc ⟨⟨sa',KI,ea',Mq⟩,L',rfl,akD,agb,akZ⟩;have hbc:cF W wc:=hS.trans akZ;obtain⟨h1,hr,hI,hb,Dc,BN,BL,hx1,hx2,hl,hxI⟩:=HF.out;have hrc:=lD hr hbc;have XV:aH wc (w.heap.size+1) 52 v:=(hbc.block _ Dc.lt).trans Dc;obtain⟨i0,xF,hz0,hz1,hz2⟩:=info_parts I7;dsimp only[cE];obtain⟨wa,rL⟩:=cG (wc.alloc (.cells #[.i x.ew,.v (x.seq:Int),.i x.dK,.v (x.ep:Int),.slice sa' x.stamp.length KI,.slice ea' x.dB.length Mq,.u (x.cl:Int)] 40));have hba:cF W wa:=by rw[rL];exact cR hbc _
  have LU:wa.ownsRow (w.heap.size+4) 40 7 v pre.length (((pre.map aj).zip C).flatMap fun p=>cT p.1.1 p.2.1):=by
   rw[rL];have:=hrc.alloc (.cells #[.i x.ew,.v (x.seq:Int),.i x.dK,.v (x.ep:Int),.slice sa' x.stamp.length KI,.slice ea' x.dB.length Mq,.u (x.cl:Int)] 40);simpa using this
  have hca:∀j u,([.i x.ew,.v (x.seq:Int),.i x.dK,.v (x.ep:Int),.slice sa' x.stamp.length KI,.slice ea' x.dB.length Mq,.u (x.cl:Int)]:List ay)[j]?=some u→wa.cell? ((⟨wc.heap.size,0,none⟩:bG).add j)=some u:=fun j u hu=>by
   rw[Addr.add_lit,aK,rL,aM _ _ j _ 40 (0,0) (aO wc _)];simpa using hu
  obtain⟨v',w6,Wg,hown',hgrow,zZ⟩:=gv (P:=prog) (w:=wa) (w.heap.size+4) 52 52 40 i0 (.agg #[.I,.V,.I,.V,.n,.n,.U]) 7 88 underlying52 xF hz0 hz1 hz2 rfl cM v _ _ LU ⟨wc.heap.size,0,none⟩ 1 1 _ rfl hca (by intro u hu;simp only[List.mem_cons,List.not_mem_nil,or_false] at hu;rcases hu with rfl|rfl|rfl|rfl|rfl|rfl|rfl<;>rfl) (by unfold maxLen;omega) cL (by have:=hba.size;omega);obtain⟨g',cap',rfl⟩:=ownsRow_succ hown';rw[rL] at hgrow zZ;obtain⟨sZ,qx,hr2,_,_⟩:=pW (n:=w.heap.size+4) XV cM hrc (by have:=hbc.size;omega) (aC _) hown' hgrow zZ;have hc1:=sZ.cell;have tQ:=sZ.frozen;have hc2:=qx.cell;obtain⟨wf,hwf⟩:=cG (w6.setCell ⟨w.heap.size+1,0,none⟩ (.slice (some ⟨g',0,none⟩) (pre.length+1) cap'));rw[←hwf] at qx hr2 hc2;have QH:Kept (fun b=>b=w.heap.size+1∨v.ownBlock=some b) W wf:=by
   rw[hwf];exact((dm (S:=fun b=>b=w.heap.size+1∨v.ownBlock=some b) hbc).alloc _).trans (((fT hgrow).mono (fun k _ e=>.inr e)).setCell (.inl rfl) _)
  have hnS:∀b,v.ownBlock=some b→w.heap.size+4≤b:=fun b e=>(hr.lt b e).1
  have hkn:KN (w.heap.size+4) (w.heap.size+1) W wf:=QH.mono (fun b _ e=>e.imp id (hnS b));have hkeep:KeepsFrom W0.heap.size W wf:=⟨QH.size,fun b o _ ho hno=>QH.same ho (fun e=>by
   rcases e with rfl|e
   ·have akU:W.heap[w.heap.size+1]?=_:=Dc
    rw[akU] at ho;cases ho;cases hno
   obtain⟨cur,Ul⟩:=vT hr e;rw[Ul] at ho;cases ho;cases hno)⟩
  have sL:xw w (w.heap.size+1) (pre.map aj++[(x,q)]) wf:=by
   refine⟨_,C++[(⟨sa',KI,ea',Mq⟩,L')],by rw[aE,aE,h1];rfl,qx,?_,fun i y c hy hc=>?_,hb.trans (QH.below hb.size (fun b e=>by
    rcases e with rfl|e
    ·omega
    have:=hnS b e;omega))⟩
   ·rw[List.zip_append h1.symm,List.flatMap_append,aE,bU]
    simpa [cT] using hr2
   have wJ:∀b,(aT (some ⟨g',0,none⟩) (pre.length+1) cap').ownBlock=some b→v.ownBlock=some b∨wc.heap.size<b:=fun b e=>by
    rcases zZ b e with h|h
    ·exact .inl h
    rw[ah] at h;exact .inr cL
   rcases Nat.lt_or_ge i (pre.map aj).length with hlt2|hge
   ·rw[cz hlt2] at hy
    rw[cz (by rw[h1];exact hlt2)] at hc;obtain⟨z1,z2⟩:=hI i y c hy hc;refine⟨((z1.bound z2).kept QH (fun b dz e=>?_)).mono (fun b dz=>⟨dz.1.1,fun e=>?_,dz.1.2.2⟩),fun ad e=>an (z2 ad e) QH.size⟩
    ·rcases e with e|e
     ·exact dz.1.2.2 e
     exact dz.1.2.1 e
    rcases wJ b e with h|h
    ·exact dz.1.2.1 h
    have:=hbc.size;omega
   rw[bZ hge] at hy;rw[bZ (by rw[h1];exact hge)] at hc;have h0:i - (pre.map aj).length=0:=by
    have:=(aq.1 hy).1;simp at this⊢;omega
   rw[h0] at hy;rw[h1,h0] at hc;simp at hy hc;subst hy hc;have hkc:Kept (fun b=>b=w.heap.size+1∨v.ownBlock=some b) wc wf:=by
    rw[hwf];exact((Kept.refl _ wc).alloc _).trans (((fT hgrow).mono (fun k _ e=>.inr e)).setCell (.inl rfl) _)
   have hbo:=Dc.lt;refine⟨((akD.bound agb).kept hkc (fun b dz e=>?_)).mono (fun b dz=>⟨?_,fun e=>?_,fun e=>?_⟩),fun ad e=>an (agb ad e) hkc.size⟩
   ·have eE:W.heap.size≤b:=dz.1
    rcases e with e|e
    ·omega
    have:=(hr.lt b e).2;omega
   ·have eE:W.heap.size≤b:=dz.1
    have:=hb.size;omega
   ·have eE:W.heap.size≤b:=dz.1
    rcases wJ b e with h|h
    ·have:=(hr.lt b h).2
     omega
    omega
   have eE:W.heap.size≤b:=dz.1;omega
  have HWA:=cE (cD rL hwf);have Ay:=cE (cD sL (cD QH (cD hkeep hkn)));refine gp _ _ hbc ?_;clear gp;refine fK 3 rfl fun K' gp=>?_
  gi_wp2_with fail
  rw[←HWA.out.1];refine gp _ _ hba ?_;clear gp;refine fC 4 rfl fun K' gp=>?_
  refine mj (.tmp 11) (.tmp 14) 52 rfl v _ _ w6 rfl rfl Wg (gp _ _ ?_);clear gp;simp only[cQ];refine fC 5 rfl fun K' gp=>?_
  gi_wp2_with fail
  rw[←HWA.out.2];refine fD ?_ cK _;clear hc1 tQ sZ hr2 qx hgrow zZ Wg hown' LU hca rL hwf hrc XV;by_cases h8:pre.length=7
  ·have t8:((pre.length:Int)+1==8)=true:=by rw[h8];rfl
   gi_wp2
   exact⟨Ay.out.2.2.1,rfl,by rw[bS];exact Ay.out.1,by rw[aE,h8];rfl⟩
  have t8:((pre.length:Int)+1==8)=false:=by simp;omega
  have hp8:=HF.out.2.2.2.2.2.1;gi_wp2
  exact⟨Ay.out.2.2.1,Ay.out.2.2.2,by rw[bS];exact Ay.out.1,by rw[aE,List.length_singleton];omega,aJ HF.out.2.2.2.2.2.2.1 Ay.out.2.1.size⟩
 case done=>
  rintro D ys W hD hys ⟨⟨v,C,h1,Dc,hr,hI,hb⟩,BN,BL⟩ hK;have hc:=Dc.cell;have HF:=cE (cD h1 (cD hr (cD hI (cD hb (cD Dc hys)))));have HL8:=cE BN;clear h1 hr hI hb hys BN;gi_wp2
  refine⟨by simp,.inl ⟨_,_,rfl,cm hK,?_⟩⟩;obtain⟨h1,hr,hI,hb,Dc,hys⟩:=HF.out;have X7:Kept (·=D) W (W.putObj D (.deferred none)):=⟨rfl,rfl,rfl,by simp[bg],fun b _ hnb=>aB (fun e=>hnb e)⟩;have hP:(gZ id hv I k).take 8=ys.map aj:=by
   rw[hys,xU,aG,aD,←HK.out,List.take_of_length_le];have:=HL8.out;have e2:ys.length=(gZ id hv I k).length:=by
    rw[hys,←bU (f:=aj),xU,aG,aD,←HK.out]
   omega
  rw[hP];exact⟨_,results_tmp rfl _ _ _,v,C,rfl,h1,aab (hr.mono cL) _ hK rfl,fun i x c hx hc=>((hI i x c hx hc).1.jX X7 (fun b _ ⟨cs,t,fr,hc⟩ e=>by have e:b=D:=e;rw[e,hK] at hc;cases hc)).mono (fun b hb=>⟨hb.1,hb.2.1⟩),hb.trans (belowK_b (w:=w) (aC _) W D _ _ (by have:=iY.out.2.2.2.2.1;omega) hK rfl rfl)⟩
 rintro D c pre W hD ⟨rest,hpre⟩ ⟨rfl,⟨v,C,h1,Dc,hr,hI,hb⟩,BN⟩ hK;have hc:=Dc.cell;have HF:=cE (cD h1 (cD hr (cD hI (cD hb (cD Dc hpre)))));have HL8:=cE BN;clear h1 hr hI hb hpre BN;gi_wp2
 refine⟨by simp,.inl ⟨_,_,rfl,cm hK,?_⟩⟩;obtain⟨h1,hr,hI,hb,Dc,hpre⟩:=HF.out;have X7:Kept (·=D) W (W.putObj D (.deferred none)):=⟨rfl,rfl,rfl,by simp[bg],fun b _ hnb=>aB (fun e=>hnb e)⟩;have hP:(gZ id hv I k).take 8=pre.map aj:=by
  have e2:gZ id hv I k=pre.map aj++rest.map aj:=by
   rw[←bS,hpre,xU,aG,aD,←HK.out]
  rw[e2];exact List.take_left' (by rw[bU];exact HL8.out)
 rw[hP];exact⟨_,results_tmp rfl _ _ _,v,C,rfl,h1,aab (hr.mono cL) _ hK rfl,fun i x c hx hc=>((hI i x c hx hc).1.jX X7 (fun b _ ⟨cs,t,fr,hc⟩ e=>by have e:b=D:=e;rw[e,hK] at hc;cases hc)).mono (fun b hb=>⟨hb.1,hb.2.1⟩),hb.trans (belowK_b (w:=w) (aC _) W D _ _ (by have:=iY.out.2.2.2.2.1;omega) hK rfl rfl)⟩
attribute [local go_sem] Oper.semAt_some
theorem PW(w:ag)(hv:Nat):aA prog 47 #[.n,.v hv] w (xx w []):=by
 refine(aU (n:=2)).1 ?_;refine callsIn_of_wp_marks func47 rfl trivial ?_ rfl;simp only[ntmps47,aV,aN,bq,bC,bB,aQ,aP,aW,aR,bh,aZ];gi_wp2_with fail
 refine⟨trivial,?_⟩;refine(aU.2 (Om _ _ _ _ _ _)).mono ?_;rintro e w' ⟨rfl,rfl⟩;gi_wp2
 obtain⟨W0,xG⟩:∃W0,((((w.alloc (.cells #[.v hv] 36)).alloc (.cells #[.n] 52)).alloc (.cells #[.n] 52)).alloc (.cells #[.func (.func 106) #[] #[.p w.heap.size]] 71))=W0:=⟨_,rfl⟩;have b1:=(((au w 36 (.v hv)).alloc (.cells #[.n] 52)).alloc (.cells #[.n] 52)).alloc (.cells #[.func (.func 106) #[] #[.p w.heap.size]] 71);have b2:=((au (w.alloc (.cells #[.v hv] 36)) 52 (.n)).alloc (.cells #[.n] 52)).alloc (.cells #[.func (.func 106) #[] #[.p w.heap.size]] 71);have b3:=(au ((w.alloc (.cells #[.v hv] 36)).alloc (.cells #[.n] 52)) 52 (.n)).alloc (.cells #[.func (.func 106) #[] #[.p w.heap.size]] 71);have b4:=au (((w.alloc (.cells #[.v hv] 36)).alloc (.cells #[.n] 52)).alloc (.cells #[.n] 52)) 71 (.func (.func 106) #[] #[.p w.heap.size]);rw[ah] at b2;rw[ah,ah] at b3;rw[ah,ah,ah] at b4;rw[xG] at b1 b2 b3 b4⊢;have hs0:W0.heap.size=w.heap.size+4:=by rw[←xG];simp
 have wL:cF w W0:=by rw[←xG];exact cR (cR (cR (cR (af _ w) _) _) _) _
 have iY:=cE (cD b1 (cD b2 (cD b3 (cD b4 (cD hs0 wL)))));clear xG b1 b2 b3 b4 hs0 wL;refine wpIn_rangeFunc_ownH (α:={x:gK×dS // x∈([]:List (gK×dS))}) rfl cL (gf:=200) (lb:=#[.p (w.heap.size+1+1),.p (w.heap.size+1+1+1)]) rfl trivial (cq func200 cK rfl)
  (encs:=fun x=>#[eN x.1.1 x.1.2]) (Kp:=KN (w.heap.size+4) (w.heap.size+1)) (S:=fun ys=>ys=([]:List {x:gK×dS // x∈([]:List (gK×dS))})) (Sp:=fun pre=>pre <+: ([]:List {x:gK×dS // x∈([]:List (gK×dS))})) (N:=1000001) (w0:=W0) ?seq
  (fun h k=>h.trans k) ?kb (af _ _) (fun _=>rfl)
  (fun pre W=>xw w (w.heap.size+1) (pre.map aj) W∧pre.length<8∧w.heap.size+4≤W.heap.size) (fun c pre W=>c=.exit 0∧xw w (w.heap.size+1) (pre.map aj) W∧pre.length=8)
  (fun s A B row hs hg hr=>⟨pH w _ _ (by have:=iY.out.2.2.2.2.1;omega) _ A B row hs.1 hg hr,hs.2.1,aJ hs.2.2 hg.size⟩)
  (fun c s A B row hs hg hr=>⟨hs.1,pH w _ _ (by have:=iY.out.2.2.2.2.1;omega) _ A B row hs.2.1 hg hr,hs.2.2⟩)
  ⟨Ec iY.out.2.1 iY.out.2.2.2.2.2,by simp,by have:=iY.out.2.2.2.2.1;omega⟩
  (fun x a' W=>∃xb,w.heap.size+4≤xb∧W.heap[xb]?=some (.cells (cT x.1.1 x.1.2).toArray 40 (0,0))∧a'={tmps:=#[.n,.v hv,aI,.p w.heap.size,.n,.p (w.heap.size+1),.p xb,.n,.func (.func 106) #[] #[.p w.heap.size],.func (.func 200) #[] #[.p (w.heap.size+1+1),.p (w.heap.size+1+1+1)],eN x.1.1 x.1.2,aI,aI,aI,aI,aI,aI,aI,aI,aI],defers:=[]})
  (fun x a' s A B row hs hg hr=>?ax) ?assign ?body ?done ?stop
 case seq=>
  intro l J Jx W hW hJ hJx hY hJ0;obtain⟨b1,b2,b3,b4,hs0,wL⟩:=iY.out;exact acz 1 l (w.heap.size+1+1) 0 _ J Jx W ((hW.block _ cL).trans b3) hJ0
 case kb=>
  intro W l o o' hl ho hc hw;have hs0:=iY.out.2.2.2.2.1;exact⟨rfl,rfl,rfl,by simp[bg],fun b hb hnb=>aB (fun e=>hnb (.inr cL))⟩
 case ax=>exact absurd x.2 cN
 case assign=>
  rintro l pre ⟨x,hx⟩;cases hx
 case body=>
  rintro l pre ⟨x,hx⟩;cases hx
 case done=>
  rintro D ys W hD hys ⟨⟨v,C,h1,Dc,hr,hI,hb⟩,BN,BL⟩ hK;have hc:=Dc.cell;have HF:=cE (cD h1 (cD hr (cD hI (cD hb (cD Dc hys)))));have HL8:=cE BN;clear h1 hr hI hb hys BN;gi_wp2
  refine⟨by simp,.inl ⟨_,_,rfl,cm hK,?_⟩⟩;obtain⟨h1,hr,hI,hb,Dc,hys⟩:=HF.out;have X7:Kept (·=D) W (W.putObj D (.deferred none)):=⟨rfl,rfl,rfl,by simp[bg],fun b _ hnb=>aB (fun e=>hnb e)⟩;have hP:([]:List (gK×dS))=ys.map aj:=by rw[hys];rfl
  rw[hP];exact⟨_,results_tmp rfl _ _ _,v,C,rfl,h1,aab (hr.mono cL) _ hK rfl,fun i x c hx hc=>((hI i x c hx hc).1.jX X7 (fun b _ ⟨cs,t,fr,hc⟩ e=>by have e:b=D:=e;rw[e,hK] at hc;cases hc)).mono (fun b hb=>⟨hb.1,hb.2.1⟩),hb.trans (belowK_b (w:=w) (aC _) W D _ _ (by have:=iY.out.2.2.2.2.1;omega) hK rfl rfl)⟩
 rintro D c pre W hD ⟨rest,hpre⟩ ⟨rfl,_,BN⟩ hK;have:pre=[]:=List.append_eq_nil_iff.1 hpre |>.1;rw[this] at BN;cases BN
end
