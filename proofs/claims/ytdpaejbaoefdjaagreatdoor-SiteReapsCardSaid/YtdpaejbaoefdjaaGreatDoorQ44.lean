/- Part 44. -/
import Derived.Test.YtdpaejbaoefdjaaGreatDoorQ41
namespace Go.Proofs.YtdpaejbaoefdjaaGreatDoor
open Go.Proofs.Tryz
set_option maxRecDepth 100000
set_option maxHeartbeats 64000000
set_option linter.unusedVariables false
set_option linter.unusedSimpArgs false
section
open Go.RowKit Go.Shelf Go.MapKept Go.ChangeMaps
theorem kg{Z:List Value}(hl:Z.length=43){x:Int}(h:Z[23]?=some (.i x)):∃R:Array Value,(∀w,(Instr.field 49 (.agg Z.toArray) 1).run prog w=.ok (.agg R) w)∧∀w,(Instr.field 47 (.agg R) 0).run prog w=.ok (.i x) w:=
 match Z,hl with
 |c0::c1::c2::c3::c4::c5::c6::c7::c8::c9::Vj::Vi::ML::Vh::Oo::Vg::Vf::Ve::Vd::Ru::Ka::MK::Rt::R8::c24::c25::c26::c27::c28::c29::c30::c31::c32::c33::c34::c35::c36::c37::c38::c39::c40::c41::c42::[],_=>by
  obtain rfl:R8=.i x:=by simpa using h
  exact⟨#[.i x,c24,c25,c26,c27,c28,c29,c30,c31,c32,c33,c34,c35],fun w=>by kernel_rfl,fun w=>by kernel_rfl⟩
end
