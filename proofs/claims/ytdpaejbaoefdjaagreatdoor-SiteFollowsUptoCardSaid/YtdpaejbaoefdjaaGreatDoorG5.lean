/- Part 5. -/
import Derived.Maps.Own
import Derived.WalkKit
import Derived.Deep.Draws
import Derived.Test.YtdpaejbaoefdjaaGreatDoorG0
open Go.MapKept renaming run_getObj_map → aa,run_setObj_map → aB
open List renaming mem_of_getElem? → af,getElem?_cons_succ → aq,nodup_cons → aA,getElem?_eq_some_iff → aC,map_cons → aE,mem_map → aF,mem_cons_of_mem → aH,mem_cons_self → aI,getElem?_map → aK
open Go.Result renaming andThen → ag
open Go renaming run_underlying → ah,World → an,MapEntry → aG
open Go.Instr renaming lookup → aj,mapUpdate → ay
open Go.ChangeMaps renaming setBlock → au
open Option renaming map_eq_some_iff → aD
open Nat renaming lt_of_lt_of_le → aJ
namespace Go.Proofs.YtdpaejbaoefdjaaGreatDoor
open Go.Proofs.Tryz
set_option maxRecDepth 100000
set_option maxHeartbeats 64000000
set_option linter.unusedVariables false
set_option linter.unusedSimpArgs false
section
open Go.RowKit Go.MapKept Go.ChangeMaps
open Go.Maps (Keyed)
structure cQ(S:Nat→Prop)(w w':an):Prop where
 os:w'.os=w.os
 tape:w'.tape=w.tape
 output:w'.output=w.output
 size:w.heap.size≤w'.heap.size
 block:∀k,k<w.heap.size→¬S k→w'.heap[k]?=w.heap[k]?
def zP:Nat→Prop:=fun _=>False
theorem cQ.refl(S:Nat→Prop)(w:an):cQ S w w:=⟨rfl,rfl,rfl,Nat.le_refl _,fun _ _ _=>rfl⟩
theorem cQ.trans{S:Nat→Prop}{a b c:an}(h:cQ S a b)(k:cQ S b c):cQ S a c:=
 ⟨k.os.trans h.os,k.tape.trans h.tape,k.output.trans h.output,Nat.le_trans h.size k.size,
  fun i hi hs=>(k.block i (aJ hi h.size) hs).trans (h.block i hi hs)⟩
theorem cQ.mono{S T:Nat→Prop}{a b:an}(h:cQ S a b)(hs:∀k,k<a.heap.size→S k→T k):cQ T a b:=
 ⟨h.os,h.tape,h.output,h.size,fun i hi hn=>h.block i hi (fun e=>hn (hs i hi e))⟩
theorem cQ.drewN{S:Nat→Prop}{a b:an}(h:cQ S a b)(n:Nat):cQ S a (b.drewN n):=⟨h.os,h.tape,h.output,h.size,h.block⟩
theorem cQ.drew{S:Nat→Prop}{a b:an}(h:cQ S a b):cQ S a b.drew:=⟨h.os,h.tape,h.output,h.size,h.block⟩
theorem cQ.alloc{S:Nat→Prop}{a b:an}(h:cQ S a b)(o:Obj):cQ S a (b.alloc o):=
 h.trans ⟨rfl,rfl,rfl,by simp,fun k hk _=>Below.heap_alloc _ _ _ hk⟩
theorem cQ.setCell{S:Nat→Prop}{a b:an}(h:cQ S a b){p:Addr}(hp:S p.block)(u:Value):cQ S a (b.setCell p u):=
 h.trans ⟨rfl,rfl,rfl,by simp[World.setCell],fun k _ hn=>Below.heap_setCell _ _ _ _ (fun e=>hn (e▸hp))⟩
theorem cQ.grown{S:Nat→Prop}{a b c:an}{row:Option Nat}(h:cQ S a b)(hg:b.grownBy c row)(hr:∀k,row=some k→a.heap.size≤k∨S k):cQ S a c:=
 ⟨hg.os.trans h.os,hg.tape.trans h.tape,hg.output.trans h.output,Nat.le_trans h.size hg.size,
  fun i hi hn=>(hg.block i (aJ hi h.size) (fun e=>by rcases hr i e.symm with h1|h1;omega;exact hn h1)).trans (h.block i hi hn)⟩
theorem cQ.below{S:Nat→Prop}{a b:an}(h:cQ S a b){B:Nat}(hB:B≤a.heap.size)(hs:∀k,S k→B≤k):Below B a b:=
 ⟨h.os,h.tape,h.output,h.size,fun k hk=>h.block k cK (fun e=>by have:=hs k e;omega)⟩
theorem cQ.cell{S:Nat→Prop}{a b:an}(h:cQ S a b){p:Addr}(hp:p.block<a.heap.size)(hn:¬S p.block):b.cell? p=a.cell? p:=
 World.cell?_of_block (w:=a) (h.block _ hp hn)
theorem cQ.frozen{S:Nat→Prop}{a b:an}(h:cQ S a b){p:Addr}(hp:p.block<a.heap.size)(hn:¬S p.block):b.frozen? p=a.frozen? p:=
 World.frozen?_of_block (w:=a) (h.block _ hp hn)
theorem cQ.same{S:Nat→Prop}{a b:an}(h:cQ S a b){k:Nat}{o:Obj}(ho:a.heap[k]?=some o)(hn:¬S k):b.heap[k]?=some o:=
 (h.block k (lt_of_block ho) hn).trans ho
section
variable{κ ν:Type}[DecidableEq κ]
def dL(a:κ):List (κ×ν)→Option ν
 |[]=>none
 |p::r=>if p.1=a then some p.2 else dL a r
def iL(a:κ)(v:ν):List (κ×ν)→List (κ×ν)
 |[]=>[(a,v)]
 |p::r=>if p.1=a then (a,v)::r else p::iL a v r
def oO(a:κ):List (κ×ν)→List (κ×ν)
 |[]=>[]
 |p::r=>if p.1=a then r else p::oO a r
theorem kR(a:κ)(v:ν):∀m:List (κ×ν),dL a (iL a v m)=some v
 |[]=>by simp[iL,dL]
 |p::r=>by
  unfold iL;split
  ·simp[dL]
  ·rename_i h;simp only[dL,if_neg h];exact kR a v r
theorem pL{a:κ}:∀{m:List (κ×ν)},dL a m=none↔∀p∈m,p.1≠a
 |[]=>by simp[dL]
 |p::r=>by
  unfold dL;split
  ·rename_i h;simp[h]
  ·rename_i h;rw[pL];simp[h]
def dS(P:Program)(k:TypeId)(fk:κ→Value)(fv:ν→Value)(w:an)(b:Nat)(m:List (κ×ν)):Prop:=
 ∃es clock,w.heap[b]?=some (.map es clock)∧Stamped es clock∧(∀x∈es.toList,∃l,keyOf P k x.key=some l)∧es.toList.map (fun x=>(x.key,x.val))=m.map (fun p=>(fk p.1,fv p.2))
variable{P:Program}{k:TypeId}{fk:κ→Value}{fv:ν→Value}{w:World}{b:Nat}{m:List (κ×ν)}
omit [DecidableEq κ] in
theorem dS.lt(h:dS P k fk fv w b m):b<w.heap.size:=by
 obtain⟨es,c,hb,_⟩:=h;exact lt_of_block hb
omit [DecidableEq κ] in
theorem dS.of_block(h:dS P k fk fv w b m){w':an}(hb:w'.heap[b]?=w.heap[b]?):dS P k fk fv w' b m:=by
 obtain⟨es,c,h1,h2⟩:=h;exact⟨es,c,hb.trans h1,h2⟩
omit [DecidableEq κ] in
theorem dS.kept(h:dS P k fk fv w b m){S:Nat→Prop}{w':an}(hk:cQ S w w')(hn:¬S b):dS P k fk fv w' b m:=
 h.of_block (hk.block b h.lt hn)
omit [DecidableEq κ] in
theorem dS.made(P:Program)(k:TypeId)(fk:κ→Value)(fv:ν→Value)(w:an):dS P k fk fv (w.alloc (.map #[] 0)) w.heap.size ([]:List (κ×ν)):=
 ⟨#[],0,(MapKept.heap_alloc w _).1,stamped_empty 0,by simp,rfl⟩
omit [DecidableEq κ] in
theorem YX{es:List aG}{m:List (κ×ν)}(h:es.map (fun x=>(x.key,x.val))=m.map (fun p=>(fk p.1,fv p.2))){j:Nat}{e:aG}(he:es[j]?=some e):
  ∃p,m[j]?=some p∧e.key=fk p.1∧e.val=fv p.2:=by
 have h1:(es.map (fun x=>(x.key,x.val)))[j]?=some (e.key,e.val):=by simp[he]
 rw[h] at h1;simp only[aK,aD,Prod.mk.injEq] at h1;obtain⟨p,hp,h2,h3⟩:=h1;exact⟨p,hp,h2.symm,h3.symm⟩
omit [DecidableEq κ] in
theorem U1{es:List aG}{m:List (κ×ν)}(h:es.map (fun x=>(x.key,x.val))=m.map (fun p=>(fk p.1,fv p.2))){j:Nat}{p:κ×ν}(hp:m[j]?=some p):
  ∃e,es[j]?=some e∧e.key=fk p.1∧e.val=fv p.2:=by
 have h1:(m.map (fun p=>(fk p.1,fv p.2)))[j]?=some (fk p.1,fv p.2):=by simp[hp]
 rw[←h] at h1;simp only[aK,aD,Prod.mk.injEq] at h1;exact h1
omit [DecidableEq κ] in
theorem nG{es:List aG}{m:List (κ×ν)}(h:es.map (fun x=>(x.key,x.val))=m.map (fun p=>(fk p.1,fv p.2)))(hn:(es.map (·.key)).Nodup):(m.map (·.1)).Nodup:=by
 have h1:es.map (·.key)=(m.map (·.1)).map fk:=by
  have:=congrArg (List.map Prod.fst) h;simpa [List.map_map,Function.comp_def] using this
 rw[h1] at hn;exact List.Pairwise.of_map fk (fun _ _ h e=>h (congrArg fk e)) hn
omit [DecidableEq κ] in
theorem dS.nodup(h:dS P k fk fv w b m):(m.map (·.1)).Nodup:=by
 obtain⟨es,c,_,h2,_,h4⟩:=h;exact nG h4 h2.2.2
theorem nK{a:κ}{v:ν}:∀{m:List (κ×ν)} {j:Nat},(m.map (·.1)).Nodup→m[j]?=some (a,v)→dL a m=some v
 |[],j,_,h=>by simp at h
 |p::r,0,_,h=>by simp at h;subst h;simp[dL]
 |p::r,j+1,hn,h=>by
  simp only[aq] at h;have hm:(a,v)∈r:=af h;simp only[aE,aA] at hn;have:p.1≠a:=fun e=>hn.1 (e▸aF.2 ⟨_,hm,rfl⟩)
  simp only[dL,if_neg this];exact nK hn.2 h
theorem Az{a:κ}{v u:ν}:∀{m:List (κ×ν)} {j:Nat},(m.map (·.1)).Nodup→m[j]?=some (a,v)→iL a u m=m.set j (a,u)
 |[],j,_,h=>by simp at h
 |p::r,0,_,h=>by simp at h;subst h;simp[iL]
 |p::r,j+1,hn,h=>by
  simp only[aq] at h;have hm:(a,v)∈r:=af h;simp only[aE,aA] at hn;have:p.1≠a:=fun e=>hn.1 (e▸aF.2 ⟨_,hm,rfl⟩)
  simp only[iL,if_neg this,List.set_cons_succ];rw[Az hn.2 h]
theorem Bv{a:κ}{v:ν}:∀{m:List (κ×ν)} {j:Nat},(m.map (·.1)).Nodup→m[j]?=some (a,v)→oO a m=m.eraseIdx j
 |[],j,_,h=>by simp at h
 |p::r,0,_,h=>by simp at h;subst h;simp[oO]
 |p::r,j+1,hn,h=>by
  simp only[aq] at h;have hm:(a,v)∈r:=af h;simp only[aE,aA] at hn;have:p.1≠a:=fun e=>hn.1 (e▸aF.2 ⟨_,hm,rfl⟩)
  simp only[oO,if_neg this,List.eraseIdx_cons_succ];rw[Bv hn.2 h]
theorem Gv{a:κ}{u:ν}:∀{m:List (κ×ν)},(∀p∈m,p.1≠a)→iL a u m=m++[(a,u)]
 |[],_=>rfl
 |p::r,h=>by
  have h1:p.1≠a:=h p (aI ..);simp only[iL,if_neg h1,List.cons_append];rw[Gv (fun q hq=>h q (aH _ hq))]
theorem IC{a:κ}:∀{m:List (κ×ν)},(∀p∈m,p.1≠a)→oO a m=m
 |[],_=>rfl
 |p::r,h=>by
  have h1:p.1≠a:=h p (aI ..);simp only[oO,if_neg h1];rw[IC (fun q hq=>h q (aH _ hq))]
theorem dS.find(K:Keyed P k)(hinj:∀x y,fk x=fk y→x=y){es:Array aG}(hkeys:∀x∈es.toList,∃l,keyOf P k x.key=some l)(hnd:(es.toList.map (·.key)).Nodup)
  (hm:es.toList.map (fun x=>(x.key,x.val))=m.map (fun p=>(fk p.1,fv p.2))) {a:κ} {l:Lit} (ha:keyOf P k (fk a)=some l) (w:an):
  ((Instr.findKey k (fk a) es.toList).run P w=.ok none w∧(∀e∈es.toList,e.key≠fk a)∧dL a m=none)∨
  ∃j e v,(Instr.findKey k (fk a) es.toList).run P w=.ok (some (j,e.val)) w∧es.toList[j]?=some e∧e.key=fk a∧e.val=fv v∧m[j]?=some (a,v)∧dL a m=some v:=by
 rcases K.find w ha es.toList hkeys with ⟨h1,h2⟩|⟨j,e,h1,h2,h3⟩
 ·refine .inl ⟨h1,h2,pL.2 ?_⟩
  intro p hp e;obtain⟨j,hj⟩:=List.getElem?_of_mem hp;obtain⟨x,hx,hxk,_⟩:=U1 hm hj;exact h2 x (af hx) (by rw[hxk,e])
 obtain⟨p,hp,hk,hv⟩:=YX hm h2;have e1:p.1=a:=hinj _ _ (by rw[←hk,h3]);obtain⟨pa,pv⟩:=p;dsimp only at e1 hk hv;subst e1;exact .inr ⟨j,e,pv,h1,h2,h3,hv,hp,nK (nG hm hnd) hp⟩
theorem dS.lookup(h:dS P k fk fv w b m)(K:Keyed P k)(hinj:∀x y,fk x=fk y→x=y){t e:TypeId}(ht:P.underlying t=some (.map k e)){z:Value}(hz:(zeroValue e).run P w=.ok z w)
  {a:κ} {l:Lit} (ha:keyOf P k (fk a)=some l):
  (aj t (.map (some b)) (fk a) false).run P w=.ok (((dL a m).map fv).getD z) w:=by
 obtain⟨es,c,hb,hst,hkeys,hm⟩:=h;rcases dS.find K hinj hkeys hst.2.2 hm ha w with ⟨h1,_,h3⟩|⟨j,e0,v,h1,_,_,hv,_,h4⟩
 ·simp[aj,ah ht,aa hb,K.check w _ ha,h1,h3,hz,ag]
 simp[aj,ah ht,aa hb,K.check w _ ha,h1,h4,hv,ag]
theorem dS.mT(h:dS P k fk fv w b m)(K:Keyed P k)(hinj:∀x y,fk x=fk y→x=y){t e:TypeId}(ht:P.underlying t=some (.map k e)){z:Value}(hz:(zeroValue e).run P w=.ok z w)
  {a:κ} {l:Lit} (ha:keyOf P k (fk a)=some l):
  (aj t (.map (some b)) (fk a) true).run P w=.ok (.tuple #[((dL a m).map fv).getD z,.bool (dL a m).isSome]) w:=by
 obtain⟨es,c,hb,hst,hkeys,hm⟩:=h;rcases dS.find K hinj hkeys hst.2.2 hm ha w with ⟨h1,_,h3⟩|⟨j,e0,v,h1,_,_,hv,_,h4⟩
 ·simp[aj,ah ht,aa hb,K.check w _ ha,h1,h3,hz,ag]
 simp[aj,ah ht,aa hb,K.check w _ ha,h1,h4,hv,ag]
theorem jE(hb:b<w.heap.size)(o:Obj):cQ (·=b) w (au w b o):=
 ⟨rfl,rfl,rfl,by simp[au],fun i _ hn=>by simp only[au,Array.getElem?_setIfInBounds];rw[if_neg (fun e=>hn e.symm)]⟩
theorem dS.update(h:dS P k fk fv w b m)(K:Keyed P k)(hinj:∀x y,fk x=fk y→x=y){t e:TypeId}(ht:P.underlying t=some (.map k e))(v:ν)
  {a:κ} {l:Lit} (ha:keyOf P k (fk a)=some l):
  ∃o,(∀w':an,w'.heap[b]?=w.heap[b]?→(ay t (.map (some b)) (fk a) (fv v)).run P w'=.ok () (au w' b o)∧dS P k fk fv (au w' b o) b (iL a v m)):=by
 obtain⟨es,c,hb0,hst,hkeys,hm⟩:=h;rcases dS.find K hinj hkeys hst.2.2 hm ha w with ⟨_,h2,h3⟩|⟨j,e0,u,_,h2,h3,hv,hmj,h4⟩
 ·refine⟨.map (es.push ⟨fk a,fv v,c⟩) (c+1),fun w' hw'=>?_⟩
  have hb:=hw'.trans hb0;rcases K.find w' ha es.toList hkeys with ⟨h1,_⟩|⟨j,e,_,h5,h6⟩
  ·refine⟨?_,?_⟩
   ·simp[ay,ah ht,aa hb,K.check w' _ ha,h1,aB _ hb,ag,au]
   refine⟨es.push ⟨fk a,fv v,c⟩,c+1,heap_setBlock_same hb _,stamped_push hst h2,?_,?_⟩
   ·intro x hx
    simp only[Array.toList_push,List.mem_append,List.mem_singleton] at hx;rcases hx with hx|rfl
    ·exact hkeys x hx
    exact⟨l,ha⟩
   rw[Gv (pL.1 h3)];simp[hm]
  exact absurd h6 (h2 e (af h5))
 have hj:es[j]?=some e0:=by simpa using h2
 have X0:(es.modify j (fun e'=>{e' with key:=fk a,val:=fv v})).toList=es.toList.set j {e0 with key:=fk a,val:=fv v}:=by
  rw[Array.toList_modify,modify_eq_set _ _ _ _ h2]
 refine⟨.map (es.modify j (fun e'=>{e' with key:=fk a,val:=fv v})) c,fun w' hw'=>?_⟩;have hb:=hw'.trans hb0;rcases dS.find K hinj hkeys hst.2.2 hm ha w' with ⟨_,h6,_⟩|⟨j',e',u',h1,h6,h7,_,aad,_⟩
 ·exact absurd h3 (h6 e0 (af h2))
 have hjj:j'=j:=by
  have hn:=nG hm hst.2.2;have h8:(m.map (·.1))[j']?=some a:=by simp[aad]
  have h9:(m.map (·.1))[j]?=some a:=by simp[hmj]
  obtain⟨g1,g2⟩:=aC.1 h8;obtain⟨g3,g4⟩:=aC.1 h9;exact(List.getElem_inj hn).1 (g2.trans g4.symm)
 subst hjj;refine⟨?_,?_⟩
 ·simp[ay,ah ht,aa hb,K.check w' _ ha,h1,hj,h3,K.stays w' ha,aB _ hb,ag,au]
 refine⟨_,c,heap_setBlock_same hb _,stamped_modify hst _ _ (fun _ _=>rfl) (fun e' _ he'=>by rw[hj] at he';cases he';exact h3.symm),?_,?_⟩
 ·intro x hx
  rw[X0] at hx;rcases List.mem_or_eq_of_mem_set hx with hx|rfl
  ·exact hkeys x hx
  exact⟨l,ha⟩
 rw[X0,List.map_set,hm,Az (nG hm hst.2.2) hmj,List.map_set]
end
end
