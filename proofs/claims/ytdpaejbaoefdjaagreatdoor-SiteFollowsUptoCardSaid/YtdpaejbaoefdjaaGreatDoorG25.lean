/- Part 25. -/
import Derived.Test.YtdpaejbaoefdjaaGreatDoorG24
import Derived.Deep.AppendLies
open List renaming flatMap_cons → aa
namespace Go.Proofs.YtdpaejbaoefdjaaGreatDoor
open Go.Proofs.Tryz
set_option maxRecDepth 100000
set_option maxHeartbeats 64000000
set_option linter.unusedVariables false
set_option linter.unusedSimpArgs false
section
open Go.RowKit Go.Shelf Go.MapKept Go.ChangeMaps Go.Maps Go.Sort
theorem tY:(prog.info? 93).map (fun i=>(i.zero,i.size,i.bytes))=some (some (.agg #[.z,.F,.n,.U,.U,.U,.I,.U,.V,.V,.V]),11,104):=by kernel_rfl
theorem gz{w w':World}{o:Option Nat}(h:w.grownBy w' o):cQ (fun k=>o=some k) w w':=⟨h.os,h.tape,h.output,h.size,fun k hk hn=>h.block k hk (fun e=>hn e.symm)⟩
theorem vW:∀(L:List dr) (k:Nat) (r:dr),L[k]?=some r→∀j u,r.cells[j]?=some u→(L.flatMap dr.cells)[k*11+j]?=some u
 |[],k,r,h,j,u,hu=>by simp at h
 |x::L,0,r,h,j,u,hu=>by
  simp at h;subst h;rw[aa,Nat.zero_mul,Nat.zero_add,List.getElem?_append_left (List.getElem?_eq_some_iff.1 hu).1];exact hu
 |x::L,k+1,r,h,j,u,hu=>by
  have h':L[k]?=some r:=by simpa using h
  rw[aa,List.getElem?_append_right (by rw[lV];omega),lV,show(k+1)*11+j - 11=k*11+j by omega];exact vW L k r h' j u hu
structure yf(w:World)(base:Nat)(v:Value)(L:List dr)(E:List gm):Prop where
 own:w.ownsRow base 93 11 v L.length (L.flatMap dr.cells)
 like:ff w (fun k=>v.ownBlock≠some k) L E
theorem La(w:World)(base:Nat):yf w base (.n) [] []:=⟨World.ownsRow_nil w base 93 11,rfl,fun k r e h=>by simp at h⟩
theorem lE{w w':World}{base size n:Nat}{e:TypeId}{v:Value}{xs:List Value}(h:w.ownsRow base e size v n xs)(hb:cE w w'):w'.ownsRow base e size v n xs:=
 h.kept (row:=none) ⟨hb.os,hb.tape,hb.output,hb.size,fun i hi _=>hb.block i hi⟩ (by cases v.ownBlock<;>simp)
theorem yf.VU{w:World}{base:Nat}{v:Value}{L:List dr}{E:List gm}(h:yf w base v L E)(hL:0<L.length):
  ∃g c,v=.slice (some ⟨g,0,none⟩) L.length c∧base≤g∧g<w.heap.size∧gH w w.heap.size (some ⟨g,0,none⟩) L:=by
 rcases h.own.2 with ⟨h1,h0⟩|⟨g,cap,cur,h1,yG,hg,_⟩
 ·omega
 refine⟨g,cap,h1,(h.own.lt g (by rw[h1];rfl)).1,(h.own.lt g (by rw[h1];rfl)).2,fun k r hk=>⟨g,0,rfl,(h.own.lt g (by rw[h1];rfl)).2,fun j u hu=>?_⟩⟩;have:=h.own.cells (g:=g) (by rw[h1];rfl) (k*11+j) u (vW L k r hk j u hu);rw[Addr.add_lit] at this;rw[Nat.zero_add] at this;rw[show 0+k*11+j=k*11+j by omega];exact this
end
