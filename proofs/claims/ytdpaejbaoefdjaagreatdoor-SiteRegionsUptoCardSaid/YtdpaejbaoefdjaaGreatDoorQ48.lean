/- Part 48. -/
import Derived.Test.YtdpaejbaoefdjaaGreatDoorQ43
import Derived.Test.YtdpaejbaoefdjaaGreatDoorQ46
namespace Go.Proofs.YtdpaejbaoefdjaaGreatDoor
open Go.Proofs.Tryz
set_option maxRecDepth 100000
set_option maxHeartbeats 64000000
set_option linter.unusedVariables false
set_option linter.unusedSimpArgs false
section
open Go.RowKit Go.ChangeShapes Go.WideShapes Go.Deep
theorem zU{H:Type}(enc:TypeId×Value→H)(W:World)
  (v0:Value) (d0:DataW H) (p0:List MemPlace) (h0:DataW.Trod enc prog W 0 (fun _=>true) true 22 v0 d0 p0) (o0:∃b,Value.okWide prog W .any b 22 v0)
  (hk:Rows.uptoSmall H [d0]=true) (hm:dG W) (PT:gB W):
  Calls prog 7 #[v0] W fun e W'=>e=.returned (.T)∧cF W W':=by
 have hk:=GU hk;obtain⟨b0,o0⟩:=o0;obtain⟨a,c,L,rfl,hl,hat⟩:=EU h0 o0 hk;exact Hs hm PT a c L hat hl
end
