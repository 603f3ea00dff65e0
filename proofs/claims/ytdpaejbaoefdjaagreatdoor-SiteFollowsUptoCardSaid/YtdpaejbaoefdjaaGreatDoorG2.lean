/- Part 2. -/
import Derived.Test.YtdpaejbaoefdjaaGreatDoorG1
import Derived.Lib.SplitLaws
open List.cons renaming injEq → aa
open Go.Lib renaming index → af
open List renaming flatten_cons → ag
namespace Go.Proofs.YtdpaejbaoefdjaaGreatDoor
open Go.Proofs.Tryz
set_option maxRecDepth 100000
set_option maxHeartbeats 64000000
set_option linter.unusedVariables false
set_option linter.unusedSimpArgs false
section
open Go.Lib
theorem ow(l:cO):gJ l≠[]:=by
 cases l with
 |nil=>simp[gJ]
 |cons c r=>
 unfold gJ;split
 ·simp
 split<;>simp
theorem nw(r:cO):gJ (47::r)=[]::gJ r:=by simp[gJ]
theorem lD(c:UInt8)(r:cO)(hc:c≠47):∃h t,gJ r=h::t∧gJ (c::r)=(c::h)::t:=by
 cases hs:gJ r with
 |nil=>exact absurd hs (ow r)
 |cons h t=>exact⟨h,t,rfl,by simp[gJ,hc,hs]⟩
theorem qS:∀(l:cO),splitK [47] 0 (count l [47]) l=gJ l
 |[]=>by
  rw[count_miss (by simp[af])];rfl
 |c::r=>by
  by_cases hc:c=47
  ·subst hc
   have hix:af (47::r) [47]=((0:Nat):Int):=by rw[af];simp[List.isPrefixOf]
   rw[count_cons_eq,nw,←qS r,Nat.add_comm];rw[splitK,hix];simp
  ·obtain⟨h,t,e1,e2⟩:=lD c r hc
   rw[e2,count_cons_ne c 47 r hc];have ih:=qS r;rw[e1] at ih;have hp:([47]:List UInt8).isPrefixOf (c::r)=false:=by simp[List.isPrefixOf,Ne.symm hc]
   have hix:af (c::r) [47]=if af r [47]==-1 then -1 else af r [47]+1:=by rw[af,hp];simp
   cases hk:count r [47] with
   |zero=>
    rw[hk] at ih;simp only[splitK,aa] at ih⊢;exact⟨by simp[ih.1],ih.2⟩
   |succ k=>
    rw[hk] at ih;have hne:¬af r [47]=-1:=fun e=>by rw[count_miss e] at hk;cases hk
    have hge:=index_ge r [47];obtain⟨j,hj⟩:∃j:Nat,af r [47]=j:=⟨(af r [47]).toNat,by omega⟩;have aiF:af (c::r) [47]=((j+1:Nat):Int):=by rw[hix,if_neg (fun e=>hne (beq_iff_eq.1 e)),hj];omega
    have h1:¬((j:Int)==-1)=true:=fun e=>by have:=beq_iff_eq.1 e;omega
    have h2:¬(((j+1:Nat):Int)==-1)=true:=fun e=>by have:=beq_iff_eq.1 e;omega
    rw[splitK,hj,if_neg h1] at ih;rw[splitK,aiF,if_neg h2];have t1:((j:Nat):Int).toNat=j:=by omega
    have t2:((j+1:Nat):Int).toNat=j+1:=by omega
    rw[t1] at ih;rw[t2];simp only[aa,List.length_cons,List.length_nil,Nat.add_zero,Nat.zero_add] at ih⊢;exact⟨by rw[←ih.1];rfl,by rw[←ih.2];rfl⟩
theorem Ac(s:ByteArray):(splitB (bs [47]) 0 (countB s (bs [47])) s).map (·.data.toList)=gJ s.data.toList:=by
 rw[splitB_data];have:(bs [47]).data.toList=[47]:=rfl;rw[this];exact qS _
theorem NK(s:ByteArray):splitB (bs [47]) 0 (countB s (bs [47])) s=(gJ s.data.toList).map bs:=by
 rw[←Ac,List.map_map];have:(bs∘fun x:ByteArray=>x.data.toList)=id:=by funext x;exact sE x
 rw[this,List.map_id]
theorem qR(s:ByteArray):countB s (bs [47])+1=(gJ s.data.toList).length:=by
 rw[←Ac,List.length_map];exact(splitB_all (bs [47]) cL 0 _ s rfl).symm
def eS(L:List cO):cO:=(L.map (47::·)).flatten
theorem mJ:∀(l:cO),eS (gJ l)=47::l
 |[]=>rfl
 |c::r=>by
  by_cases hc:c=47
  ·subst hc
   rw[nw];have:=mJ r;simp only[eS,List.map_cons,ag] at this⊢;rw[this];rfl
  ·obtain⟨h,t,e1,e2⟩:=lD c r hc
   have:=mJ r;rw[e1] at this;rw[e2];simp only[eS,List.map_cons,ag,List.cons_append,aa,true_and] at this⊢;rw[this]
theorem Gk(x:cO)(hx:(47:UInt8)∉x)(l:cO):gJ (x++47::l)=x::gJ l:=by
 induction x with
 |nil=>exact nw l
 |cons c r ih=>
  have hc:c≠47:=fun e=>hx (by simp[e])
  have hr:(47:UInt8)∉r:=fun e=>hx (by simp[e])
  obtain⟨h,t,e1,e2⟩:=lD c (r++47::l) hc;rw[ih hr] at e1;simp only[aa] at e1;rw[List.cons_append,e2,←e1.1,←e1.2]
theorem Ak(x:cO)(hx:(47:UInt8)∉x):gJ x=[x]:=by
 induction x with
 |nil=>rfl
 |cons c r ih=>
  have hc:c≠47:=fun e=>hx (by simp[e])
  have hr:(47:UInt8)∉r:=fun e=>hx (by simp[e])
  obtain⟨h,t,e1,e2⟩:=lD c r hc;rw[ih hr] at e1;simp only[aa] at e1;rw[e2,←e1.1,←e1.2]
theorem ve:∀(x:cO) (L:List cO),(∀y∈x::L,(47:UInt8)∉y)→gJ (x++eS L)=x::L
 |x,[],h=>by simpa [eS] using Ak x (h x cM)
 |x,y::L,h=>by
  have e:x++eS (y::L)=x++47::(y++eS L):=by simp[eS]
  rw[e,Gk x (h x cM),ve y L (fun z hz=>h z (by simp[hz]))]
theorem vB(x:cO)(L:List cO):zn (x::L)=eS (x::L):=by
 show 47::Lib.join (x::L) [47]=_;rw[Lib.join_cons];have:joinTail [47] L=eS L:=rfl;rw[this];simp[eS]
end
