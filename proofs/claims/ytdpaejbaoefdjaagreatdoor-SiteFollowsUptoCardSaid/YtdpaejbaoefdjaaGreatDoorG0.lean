/- Two short words. -/
import Derived.Lib.Hide
import Derived.Test.YtdpaejbaoefdjaaGreatDoorProg
namespace Go.Proofs.YtdpaejbaoefdjaaGreatDoor
theorem _root_.Go.cC{a b:Prop}(x:a)(y:b):a∧b:=⟨x,y⟩
theorem _root_.Go.cD{p:Prop}(h:p):RowKit.Hid p:=Lib.hid h
abbrev _root_.Go.cE(w v:World):Prop:=RowKit.Below w.heap.size w v
@[match_pattern] abbrev _root_.Go.Value.b(x:Int):Value:=.int .u8 x
@[match_pattern] abbrev _root_.Go.Lit.b(x:Int):Lit:=.int .u8 x
@[match_pattern] abbrev _root_.Go.Value.u(x:Int):Value:=.int .u32 x
@[match_pattern] abbrev _root_.Go.Lit.u(x:Int):Lit:=.int .u32 x
@[match_pattern] abbrev _root_.Go.Value.v(x:Int):Value:=.int .u64 x
@[match_pattern] abbrev _root_.Go.Lit.v(x:Int):Lit:=.int .u64 x
@[match_pattern] abbrev _root_.Go.Value.i(x:Int):Value:=.int .i64 x
@[match_pattern] abbrev _root_.Go.Lit.i(x:Int):Lit:=.int .i64 x
@[match_pattern] abbrev _root_.Go.Value.B:Value:=.int .u8 0
@[match_pattern] abbrev _root_.Go.Lit.B:Lit:=.int .u8 0
@[match_pattern] abbrev _root_.Go.Value.U:Value:=.int .u32 0
@[match_pattern] abbrev _root_.Go.Lit.U:Lit:=.int .u32 0
@[match_pattern] abbrev _root_.Go.Value.V:Value:=.int .u64 0
@[match_pattern] abbrev _root_.Go.Lit.V:Lit:=.int .u64 0
@[match_pattern] abbrev _root_.Go.Value.I:Value:=.int .i64 0
@[match_pattern] abbrev _root_.Go.Lit.I:Lit:=.int .i64 0
@[match_pattern] abbrev _root_.Go.Value.F:Value:=.bool false
@[match_pattern] abbrev _root_.Go.Lit.F:Lit:=.bool false
@[match_pattern] abbrev _root_.Go.Value.T:Value:=.bool true
@[match_pattern] abbrev _root_.Go.Lit.T:Lit:=.bool true
abbrev _root_.Go.cG(t:TypeId)(n:Nat):Prop:=(Tryz.prog.info? t).map (·.size)=some n
theorem _root_.Go.cH{t:TypeId}{n:Nat}(h:(Tryz.prog.info? t).map (·.size)=some n:=by kernel_rfl):cG t n:=h
theorem _root_.Go.cJ{t:Sort _}{a b:t}(h:a=b:=by kernel_rfl):a=b:=h
theorem _root_.Go.cK{p:Prop}(h:p:=by omega):p:=h
theorem _root_.Go.cL{p:Prop}(h:p:=by decide):p:=h
theorem _root_.Go.cM{p:Prop}(h:p:=by simp):p:=h
theorem _root_.Go.cN{t:Sort _}{a b:t}(h:a=b:=by rfl):a=b:=h
@[match_pattern] abbrev _root_.Go.Value.n:Value:=.slice none 0 0
@[match_pattern] abbrev _root_.Go.Value.z:Value:=.string ⟨#[]⟩
@[match_pattern] abbrev _root_.Go.Value.p(b:Nat):Value:=.pointer (some ⟨b,0,none⟩)
theorem _root_.Go.cF{a:Sort _}(x:a):∃ y,y=x:=⟨x,rfl⟩
end Go.Proofs.YtdpaejbaoefdjaaGreatDoor
