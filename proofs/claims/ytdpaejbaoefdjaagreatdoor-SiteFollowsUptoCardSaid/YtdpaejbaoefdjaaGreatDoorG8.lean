/- Part 8. -/
import Derived.Test.YtdpaejbaoefdjaaGreatDoorG4
import Derived.Test.YtdpaejbaoefdjaaGreatDoorG5
import Derived.OwnWalkIn
import Derived.RangeFuncNested
import Derived.Shelf.Abstract
import Derived.TacticsInMore
import Derived.LoopNIn
import Derived.LoopIn
import Derived.Maps.AppendAt
import Derived.Deep.Onto
open Array renaming getElem?_eq_some_iff → aa
open Go renaming World → af,grownBy_setCell' → aq,Value → au,TypeId → aA,Boxed → aB
open Go.World renaming putObj_heap_other → ag,cell?_of_block → ay
open Nat renaming lt_of_lt_of_le → ah,zero_le → aj
open Go.Region renaming wanted → an
open Go.Builtin renaming append → aC
namespace Go.Proofs.YtdpaejbaoefdjaaGreatDoor
open Go.Proofs.Tryz
set_option maxRecDepth 100000
set_option maxHeartbeats 64000000
set_option linter.unusedVariables false
set_option linter.unusedSimpArgs false
section
open Go.RowKit
theorem sJ{F:Fence}{n:Nat}{P:Program}(w:af){ops:Array Oper}{rest:List Oper}{o:Oper}{a:Act}{Q:Exit→Act→af→Prop}
  (hg:o.guard=none) (s x:Operand) (t:aA) (hop:o.op=Op.call {callee:=Callee.builtin aC,args:=#[s,x],argTypes:=#[t,t]})
  (base:Nat) (e:aA) (i:TypeInfo) (z:au) (size bytes:Nat) (h1:P.underlying t=some (.slice e)) (h2:P.info? e=some i) (h3:i.zero=some z) (h4:i.size=size) (h5:i.bytes=bytes) (h6:z.cells.size=size) (h7:0<size)
  (v:au) (k:Nat) (xs:List au) (hs:a.eval s=v) (hown:w.ownsRow base e size v k xs) (ad:Addr) (m c:Nat) (news:List au) (hx:a.eval x=.slice (some ad) m c) (hn:news.length=m*size)
  (hc:∀j u,news[j]?=some u→w.cell? (ad.add j)=some u) (h1c:∀u∈news,u.oneCell'=true) (b1:k+m≤maxLen) (b2:(k+m)*bytes≤140737488355328) (b3:base≤w.heap.size)
  (hK:∀v' w',w'.ownsRow base e size v' (k+m) (xs++news)→w.grownBy w' v.ownBlock→(∀j,v'.ownBlock=some j→v.ownBlock=some j∨w.heap.size≤j)→wpListIn F n P ops Q rest (a.put o.dst v') w'):
  wpListIn F n P ops Q (o::rest) a w:=by
 refine wpListIn_plain hg fun K gv=>?_
 obtain⟨v',w',hrun,r1,r2,r3⟩:=gC (P:=P) (w:=w) base t o.type e i z size bytes h1 h2 h3 h4 h5 h6 h7 v k xs hown ad m c news hn hc h1c b1 b2 b3;unfold Oper.wpIn;refine⟨?_,?_⟩
 ·simp[Oper.about,hop,resolve,Target.leads,Sem.run_pure]
 rw[Oper.semAt_plain F _ _ (by rw[hop];intro c hc';cases hc')];simp[execOp,hop,resolve,invoke,builtin,hs,hx,hrun,Result.andThen];exact gv _ _ (hK v' w' r1 r2 r3)
theorem je{F:Fence}{n:Nat}{P:Program}{ops:Array Oper}{o:Oper}{a:Act}{w:af}{K:Act→af→Prop}{Q:Exit→Act→af→Prop}{E:Prop}
  (hg:o.guard=none) (s x:Operand) (t:aA) (hop:o.op=Op.call {callee:=Callee.builtin aC,args:=#[s,x],argTypes:=#[t,t]})
  (v u v':au) (w':af) (hs:a.eval s=v) (hx:a.eval x=u) (hr:(Builtin.append_ #[t,t] o.type #[v,u]).run P w=.ok v' w') (hK:K (a.put o.dst v') w'):
  if an o (yielded ops a.tmps)=true then Oper.wpIn F n P o a w K Q else E:=by
 have hw:an o (yielded ops a.tmps)=true:=by simp[an,hg]
 rw[if_pos hw];unfold Oper.wpIn;refine⟨?_,?_⟩
 ·simp[Oper.about,hop,resolve,Target.leads,Sem.run_pure]
 rw[Oper.semAt_plain F _ _ (by rw[hop];intro c hc';cases hc')];simp[execOp,hop,resolve,invoke,builtin,hs,hx,hr,Result.andThen];exact hK
def rowOf(W:af)(OB:Nat):Option Nat:=(W.cell? ⟨OB,0,none⟩).bind Value.ownBlock
structure jo(n OB:Nat)(W W':af):Prop where
 os:W'.os=W.os
 tape:W'.tape=W.tape
 output:W'.output=W.output
 size:W.heap.size≤W'.heap.size
 block:∀k,k<n→k≠OB→W'.heap[k]?=W.heap[k]?
 cells:∀(k:Nat) (o:Obj),W.heap[k]?=some o→o.isCells=true→k≠OB→rowOf W OB≠some k→W'.heap[k]?=some o
 row:∀g,rowOf W' OB=some g→rowOf W OB=some g∨W.heap.size≤g
theorem qf(n OB:Nat)(W:af):jo n OB W W:=⟨rfl,rfl,rfl,Nat.le_refl _,fun _ _ _=>rfl,fun _ _ h _ _ _=>h,fun _ h=>.inl h⟩
theorem fT{n OB:Nat}{A B C:af}(h:jo n OB A B)(k:jo n OB B C):jo n OB A C:=by
 refine⟨k.os.trans h.os,k.tape.trans h.tape,k.output.trans h.output,Nat.le_trans h.size k.size,fun i hi hn=>(k.block i hi hn).trans (h.block i hi hn),fun i o hi ho hn hr=>?_,?_⟩
 ·refine k.cells i o (h.cells i o hi ho hn hr) ho hn fun e=>?_
  have hl:i<A.heap.size:=(aa.1 hi).1;rcases h.row i e with hr2|hg
  ·exact hr hr2
  omega
 intro g hg;rcases k.row g hg with h2|h2
 ·exact h.row g h2
 exact .inr (Nat.le_trans h.size h2)
theorem lU{W W':af}{OB:Nat}(h:W'.heap[OB]?=W.heap[OB]?):rowOf W' OB=rowOf W OB:=by
 unfold rowOf;rw[ay (w:=W) (a:=⟨OB,0,none⟩) h]
theorem fO{n OB:Nat}{W W':af}(h:cE W W')(hn:n≤W.heap.size)(hO:OB<W.heap.size):jo n OB W W':=
 ⟨h.os,h.tape,h.output,h.size,fun k hk _=>h.block k cK,fun k o hk _ _ _=>(h.block k (aa.1 hk).1).trans hk,fun g hg=>.inl ((lU (h.block OB hO))▸hg)⟩
theorem MH{n OB:Nat}{w:af}(hB:n≤w.heap.size)(hO:OB<w.heap.size)(W:af)(l:Nat)(o o':Obj)(hl:w.heap.size≤l)(ho:W.heap[l]?=some o)(hc:o.isCells=false)(hw:o.isWalk=false):jo n OB W (W.putObj l o'):=
 ⟨rfl,rfl,rfl,by simp,fun k hk _=>ag cK,fun k o2 hk h2 _ _=>(ag (fun e=>by subst e;rw[ho] at hk;cases hk;rw[hc] at h2;cases h2)).trans hk,
  fun g hg=>.inl ((lU (ag (w:=W) (r:=l) (o:=o') (k:=OB) cK))▸hg)⟩
theorem jo.cell{n OB:Nat}{W W':af}(h:jo n OB W W'){p:Addr}(hp:p.block<n)(hn:p.block≠OB):W'.cell? p=W.cell? p:=ay (w:=W) (h.block _ hp hn)
theorem kO{n OB B:Nat}{W W':af}(h:jo n OB W W')(h1:B≤n)(h2:B≤OB):Below B W W':=⟨h.os,h.tape,h.output,h.size,fun k hk=>h.block k cK cK⟩
theorem yS{n OB B:Nat}{t:aA}{v:au}{W W':af}(h:aB W B t v)(hk:jo n OB W W')(h1:B<n)(h2:B≠OB):aB W' B t v:=(hk.block B h1 h2).trans h
theorem gj{n B:Nat}{t:aA}{v:au}{W W':af}(h:aB W B t v)(hk:Below n W W')(h1:B<n):aB W' B t v:=(hk.block B h1).trans h
theorem lT{W:af}{OB:Nat}{t:aA}{v:au}(h:aB W OB t v):rowOf W OB=v.ownBlock:=by
 unfold rowOf;rw[h.cell];rfl
theorem pQ{W w1:af}{n OB base:Nat}{t e:aA}{size:Nat}{v v':au}{k m:Nat}{xs ys:List au}{tmp:Obj}
  (hv:aB W OB t v) (hte:t≠e) (hrow:W.ownsRow base e size v k xs) (hn:n≤W.heap.size) (hb:n≤base)
  (hown':w1.ownsRow base e size v' m ys) (hgrow:(W.alloc tmp).grownBy w1 v.ownBlock) (zu:∀j,v'.ownBlock=some j→v.ownBlock=some j∨(W.alloc tmp).heap.size≤j):
  aB w1 OB t v∧aB (w1.setCell ⟨OB,0,none⟩ v') OB t v'∧(w1.setCell ⟨OB,0,none⟩ v').ownsRow base e size v' m ys∧KeepsOthers W (w1.setCell ⟨OB,0,none⟩ v')∧jo n OB W (w1.setCell ⟨OB,0,none⟩ v'):=by
 obtain⟨h1,h2,h3,h4,_⟩:=Boxed.appended (n₀:=0) (tmp:=tmp) hv hte (hrow.mono (aj _)) (aj _) (aj _) (hown'.mono (aj _)) hgrow;have hsz:W.heap.size≤w1.heap.size:=by have:=hgrow.size;simp at this;omega
 have hst:∀k,k<W.heap.size→k≠OB→v.ownBlock≠some k→(w1.setCell ⟨OB,0,none⟩ v').heap[k]?=W.heap[k]?:=fun k hk hne hr=>by
  rw[(aq w1 OB v').block k cK (by simpa using hne),hgrow.block k (by simp;omega) (fun e=>hr e.symm)];exact Below.heap_alloc _ _ _ cK
 refine⟨h1,h2,hown'.kept (aq w1 OB v') (.inr (h1.not_row hte hown').symm),h4,?_⟩;refine⟨hgrow.os,hgrow.tape,hgrow.output,?_,fun k hk hne=>hst k cK hne (fun e=>?_),fun k o hk ho hne hr=>?_,?_⟩
 ·have h5:=(aq w1 OB v').size
  omega
 ·have:=(hrow.lt k e).1
  omega
 ·rw[lT hv] at hr
  exact(hst k (aa.1 hk).1 hne hr).trans hk
 intro g hg;rw[lT h2] at hg;rw[lT hv];rcases zu g hg with h|h
 ·exact .inl h
 exact .inr (by simp at h;omega)
theorem sZ{β:Type}{n OB B:Nat}{w₀:af}(hn:n≤w₀.heap.size)(hO:OB<n)(hB:n≤B):OwnFrom B (fun(_:β) W=>jo n OB w₀ W):=by
 intro s W W' row h hg hr;have hst:∀(k:Nat) (o:Obj),W.heap[k]?=some o→o.isCells=true→W'.heap[k]?=some o:=fun k o hk ho=>by
  refine(hg.block k (aa.1 hk).1 (fun e=>?_)).trans hk;obtain⟨_,o2,h2,h3⟩:=hr k e.symm;rw[hk] at h2;cases h2;rw[ho] at h3;cases h3
 refine fT h ⟨hg.os,hg.tape,hg.output,hg.size,fun k hk hn'=>hg.block k (ah (ah hk hn) h.size) (fun e=>?_),fun k o hk ho _ _=>hst k o hk ho,fun g hgr=>.inl ((lU ?_)▸hgr)⟩
 ·have:=(hr k e.symm).1
  omega
 refine hg.block OB (ah cK h.size) (fun e=>?_);have:=(hr OB e.symm).1;omega
end
