/- Part 33. -/
import Derived.Test.YtdpaejbaoefdjaaGreatDoorQ30
import Derived.WalkSpells
open Go.IntKind renaming signed → aa
namespace Go.Proofs.YtdpaejbaoefdjaaGreatDoor
open Go.Proofs.Tryz
set_option maxRecDepth 100000
set_option maxHeartbeats 64000000
set_option linter.unusedVariables false
set_option linter.unusedSimpArgs false
section
open Go.RowKit Go.MapKept Go.ChangeMaps
open Go.Maps (Keyed)
theorem aaV:laidOutB prog=true:=by kernel_rfl
theorem aen:(31:TypeId)<prog.types.size:=of_decide_eq_true cK
theorem aaT:(match prog.underlying 31 with|some (.array _ _)|some (.struct _)=>true|_=>false)=true:=by rw[underlying31]
theorem Ze:Keyed prog 31:=Keyed.of_law (deep_law_laid aaV (m:=2) cL aen cK aaT)
theorem aaW:prog.keyType 31=true:=by kernel_rfl
theorem Nq:prog.cellsOf 31=2:=by kernel_rfl
theorem SM:prog.cellsOf 3=1:=by kernel_rfl
theorem SL:prog.cellsOf 29=1:=by kernel_rfl
theorem aaS(w:World):(zeroValue 4).run prog w=.ok (.F) w:=by kernel_rfl
theorem mW.wf{n:Int}(h:mW n):(Lit.int .i64 n).wf=true:=by
 obtain⟨h1,h2⟩:=h;simp[Lit.wf,IntKind.min,IntKind.max,aa,IntKind.bits];omega
theorem zL.wf{n:Int}(h:zL n):(Lit.int .u32 n).wf=true:=by
 obtain⟨h1,h2⟩:=h;simp[Lit.wf,IntKind.min,IntKind.max,aa,IntKind.bits];omega
def sk(p:Int×Int):Value:=.agg #[.i p.1,.u p.2]
theorem SF:∀x y,sk x=sk y→x=y:=by
 rintro⟨a,b⟩ ⟨c,d⟩ h;simp[sk] at h;simp[h]
theorem aaU(d:Nat)(x y:Int)(w1:(Lit.int .i64 x).wf=true)(w2:(Lit.int .u32 y).wf=true):
  prog.keyLits (d+2) 31 [.i x,.u y]=some [.i x,.u y]:=by
 simp[Program.keyLits,underlying31,Nq,SM,SL,underlying3,underlying29,w1,w2]
theorem WS:∃n,prog.types.size+1=n+2:=⟨prog.types.size - 1,by have:2≤prog.types.size:=of_decide_eq_true cK;omega⟩
theorem SE{p:Int×Int}(h1:mW p.1)(h2:zL p.2):∃l,keyOf prog 31 (sk p)=some l:=by
 obtain⟨n,hn⟩:=WS;refine⟨.string (keyBytes [.i p.1,.u p.2]),?_⟩;unfold keyOf;rw[underlying31];dsimp only;rw[aaW,hn,show(sk p).cells.toList=[.i p.1,.u p.2] from rfl,aaU n _ _ h1.wf h2.wf,
  show(sk p).formed prog 31=true by simp[sk,Value.formed,underlying31,Nq]]
 rfl
structure iM(w:World)(b mb:Nat)(s n:Int)(g:List (Int×Int)):Prop where
 blk:w.heap[b]?=some (.cells #[.i s,.u n,.map (some mb)] 198 (0,0))
 mp:dL prog 31 sk Value.bool w mb (g.map (·,true))
end
