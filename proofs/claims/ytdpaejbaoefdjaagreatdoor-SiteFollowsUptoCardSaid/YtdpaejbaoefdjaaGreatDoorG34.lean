/- Part 34. -/
import Derived.Test.YtdpaejbaoefdjaaGreatDoorG30
import Derived.WalkSpells
open Go.IntKind renaming signed → aa
namespace Go.Proofs.YtdpaejbaoefdjaaGreatDoor
open Go.Proofs.Tryz
set_option maxRecDepth 100000
set_option maxHeartbeats 64000000
set_option linter.unusedVariables false
set_option linter.unusedSimpArgs false
section
open Go.RowKit Go.MapKept Go.ChangeMaps
open Go.Maps (Keyed)
theorem Zk:laidOutB prog=true:=by kernel_rfl
theorem acO:(31:TypeId)<prog.types.size:=of_decide_eq_true cJ
theorem Zi:(match prog.underlying 31 with|some (.array _ _)|some (.struct _)=>true|_=>false)=true:=by rw[underlying31]
theorem XB:Keyed prog 31:=Keyed.of_law (deep_law_laid Zk (m:=2) cK acO cJ Zi)
theorem Zl:prog.keyType 31=true:=by kernel_rfl
theorem Ml:prog.cellsOf 31=2:=by kernel_rfl
theorem Rh:prog.cellsOf 3=1:=by kernel_rfl
theorem Rg:prog.cellsOf 29=1:=by kernel_rfl
theorem Zh(w:World):(zeroValue 4).run prog w=.ok (.F) w:=by kernel_rfl
theorem nR.wf{n:Int}(h:nR n):(Lit.int .i64 n).wf=true:=by
 obtain⟨h1,h2⟩:=h;simp[Lit.wf,IntKind.min,IntKind.max,aa,IntKind.bits];omega
theorem wD.wf{n:Int}(h:wD n):(Lit.int .u32 n).wf=true:=by
 obtain⟨h1,h2⟩:=h;simp[Lit.wf,IntKind.min,IntKind.max,aa,IntKind.bits];omega
def sk(p:Int×Int):Value:=.agg #[.i p.1,.u p.2]
theorem Q9:∀x y,sk x=sk y→x=y:=by
 rintro⟨a,b⟩ ⟨c,d⟩ h;simp[sk] at h;simp[h]
theorem Zj(d:Nat)(x y:Int)(w1:(Lit.int .i64 x).wf=true)(w2:(Lit.int .u32 y).wf=true):
  prog.keyLits (d+2) 31 [.i x,.u y]=some [.i x,.u y]:=by
 simp[Program.keyLits,underlying31,Ml,Rh,Rg,underlying3,underlying29,w1,w2]
theorem Vj:∃n,prog.types.size+1=n+2:=⟨prog.types.size - 1,by have:2≤prog.types.size:=of_decide_eq_true cJ;omega⟩
theorem Q8{p:Int×Int}(h1:nR p.1)(h2:wD p.2):∃l,keyOf prog 31 (sk p)=some l:=by
 obtain⟨n,hn⟩:=Vj;refine⟨.string (keyBytes [.i p.1,.u p.2]),?_⟩;unfold keyOf;rw[underlying31];dsimp only;rw[Zl,hn,show(sk p).cells.toList=[.i p.1,.u p.2] from rfl,Zj n _ _ h1.wf h2.wf,
  show(sk p).formed prog 31=true by simp[sk,Value.formed,underlying31,Ml]]
 rfl
structure iP(w:World)(b mb:Nat)(s n:Int)(g:List (Int×Int)):Prop where
 blk:w.heap[b]?=some (.cells #[.i s,.u n,.map (some mb)] 198 (0,0))
 mp:dS prog 31 sk Value.bool w mb (g.map (·,true))
end
