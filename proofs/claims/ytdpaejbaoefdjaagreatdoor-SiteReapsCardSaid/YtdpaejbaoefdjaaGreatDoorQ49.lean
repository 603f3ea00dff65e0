/- Part 49. -/
import Derived.Test.YtdpaejbaoefdjaaGreatDoorQ45
import Derived.Test.YtdpaejbaoefdjaaGreatDoorQ3
import Derived.Test.YtdpaejbaoefdjaaGreatDoorQ46
namespace Go.Proofs.YtdpaejbaoefdjaaGreatDoor
open Go.Proofs.Tryz
set_option maxRecDepth 100000
set_option maxHeartbeats 64000000
set_option linter.unusedVariables false
set_option linter.unusedSimpArgs false
section
open Go.RowKit Go.ChangeShapes Go.WideShapes
theorem CW{H:Type}(enc:TypeId×Value→H)(W:World)
  (v0:Value) (d0:DataW H) (p0:List MemPlace) (h0:DataW.Trod enc prog W 0 (fun _=>true) true 5 v0 d0 p0) (o0:∃b,Value.okWide prog W .any b 5 v0)
  (v1:Value) (d1:DataW H) (p1:List MemPlace) (h1:DataW.Trod enc prog W 0 (fun _=>true) true 5 v1 d1 p1) (o1:∃b,Value.okWide prog W .any b 5 v1) (hm:dG W) (pow:gB W):
  Calls prog 4 #[v0,v1] W fun e W'=>e=.returned (.T)∧cF W W':=by
 obtain⟨bb0,o0⟩:=o0;obtain⟨x0,rfl,rfl,rfl,w0⟩:=open_int underlying5 o0 h0;have b0:=aad w0;obtain⟨bb1,o1⟩:=o1;obtain⟨x1,rfl,rfl,rfl,w1⟩:=open_int underlying5 o1 h1;have b1:=aad w1;obtain⟨n,rfl⟩:∃n:Nat,x0=n:=⟨x0.toNat,by omega⟩;obtain⟨q,rfl⟩:∃n:Nat,x1=n:=⟨x1.toNat,by omega⟩;exact Po hm pow n q cL cL
end
