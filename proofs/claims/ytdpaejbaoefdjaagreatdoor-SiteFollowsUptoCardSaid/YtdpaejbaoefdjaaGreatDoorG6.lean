/- Part 6. -/
import Derived.Test.YtdpaejbaoefdjaaGreatDoorG5
import Derived.WideKeyEntry
open List renaming getElem?_eq_some_iff → aa
open Go.MapKept renaming run_getObj_map → af,run_setObj_map → ah
open Go.Builtin renaming delete_ → ag
open Go renaming run_underlying → aj
namespace Go.Proofs.YtdpaejbaoefdjaaGreatDoor
open Go.Proofs.Tryz
set_option maxRecDepth 100000
set_option maxHeartbeats 64000000
set_option linter.unusedVariables false
set_option linter.unusedSimpArgs false
section
open Go.RowKit Go.MapKept Go.ChangeMaps Go.WideElems
open Go.Maps (Keyed)
section
variable{κ ν:Type}[DecidableEq κ]{P:Program}{k:TypeId}{fk:κ→Value}{fv:ν→Value}{w:World}{b:Nat}{m:List (κ×ν)}
omit [DecidableEq κ] in
theorem dS.size(h:dS P k fk fv w b m):∃es c,w.heap[b]?=some (.map es c)∧es.size=m.length:=by
 obtain⟨es,c,hb,_,_,hm⟩:=h;refine⟨es,c,hb,?_⟩;have:=congrArg List.length hm;simpa using this
omit [DecidableEq κ] in
theorem dS.Ey(h:dS P k fk fv w b m){t e:TypeId}(ht:P.underlying t=some (.map k e))(ty:TypeId):
  (Builtin.len_ #[t] ty #[.map (some b)]).run P w=.ok (.i (m.length:Int)) w:=by
 obtain⟨es,c,hb,hs⟩:=h.size;simp[Builtin.len_,aj ht,af hb,goInt,hs]
theorem dS.drop(h:dS P k fk fv w b m)(K:Keyed P k)(hinj:∀x y,fk x=fk y→x=y){t e:TypeId}(ht:P.underlying t=some (.map k e))
  {a:κ} {l:Lit} (ha:keyOf P k (fk a)=some l):
  ∃o,(∀(w':World) (ty:TypeId),w'.heap[b]?=w.heap[b]?→(ag #[t,k] ty #[.map (some b),fk a]).run P w'=.ok (.tuple #[]) (setBlock w' b o)∧dS P k fk fv (setBlock w' b o) b (oO a m)):=by
 obtain⟨es,c,hb0,hst,hkeys,hm⟩:=h;rcases dS.find K hinj hkeys hst.2.2 hm ha w with ⟨_,h2,h3⟩|⟨j,e0,u,_,h2,h3,hv,hmj,h4⟩
 ·refine⟨.map es c,fun w' ty hw'=>?_⟩
  have hb:=hw'.trans hb0;rcases dS.find K hinj hkeys hst.2.2 hm ha w' with ⟨h1,_,_⟩|⟨j',e',u',_,_,_,_,_,h9⟩
  ·refine⟨?_,es,c,heap_setBlock_same hb _,hst,hkeys,?_⟩
   ·simp[ag,aj ht,af hb,K.check w' _ ha,h1,ah _ hb,Result.andThen,setBlock]
   rw[IC (pL.1 h3)];exact hm
  rw[h3] at h9;cases h9
 have hjs:j<es.size:=by simpa using (aa.1 h2).1
 have hsub:(es.eraseIdxIfInBounds j).toList=es.toList.eraseIdx j:=by
  unfold Array.eraseIdxIfInBounds;rw[dif_pos hjs];simp
 refine⟨.map (es.eraseIdxIfInBounds j) c,fun w' ty hw'=>?_⟩;have hb:=hw'.trans hb0;rcases dS.find K hinj hkeys hst.2.2 hm ha w' with ⟨_,h6,_⟩|⟨j',e',u',h1,h6,h7,_,aad,_⟩
 ·exact absurd h3 (h6 e0 (List.mem_of_getElem? h2))
 have hn:=nG hm hst.2.2;have hjj:j'=j:=by
  have h8:(m.map (·.1))[j']?=some a:=by simp[aad]
  have h9:(m.map (·.1))[j]?=some a:=by simp[hmj]
  obtain⟨g1,g2⟩:=aa.1 h8;obtain⟨g3,g4⟩:=aa.1 h9;exact(List.getElem_inj hn).1 (g2.trans g4.symm)
 subst hjj;refine⟨?_,es.eraseIdxIfInBounds j',c,heap_setBlock_same hb _,stamped_erase hst j',?_,?_⟩
 ·simp[ag,aj ht,af hb,K.check w' _ ha,h1,ah _ hb,Result.andThen,setBlock]
 ·intro x hx
  rw[hsub] at hx;exact hkeys x ((List.eraseIdx_sublist _ _).subset hx)
 rw[hsub,Bv hn hmj,map_eraseIdx,hm,map_eraseIdx]
end
end
