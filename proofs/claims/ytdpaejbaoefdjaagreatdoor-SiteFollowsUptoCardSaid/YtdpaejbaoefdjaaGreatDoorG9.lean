/- Part 9. -/
import Derived.Shelf.SlIter.Nil
import Derived.Shelf.SortM.Plain
import Derived.Shelf.SortM.SortNone
import Derived.Shelf.SlMaps.Clone
import Derived.Test.YtdpaejbaoefdjaaGreatDoorProg
import Derived.Test.YtdpaejbaoefdjaaGreatDoorG0
open Go.Fence renaming wide → aa
open Go.Shelf renaming Ren → af
namespace Go.Proofs.YtdpaejbaoefdjaaGreatDoor
open Go.Proofs.Tryz
set_option maxRecDepth 100000
set_option maxHeartbeats 64000000
set_option linter.unusedVariables false
set_option linter.unusedSimpArgs false
end Go.Proofs.YtdpaejbaoefdjaaGreatDoor
namespace Go.Proofs
open Go.Proofs.Tryz
open Go.Shelf
def Tryz.yB:af:=⟨fun|7=>117|10=>207|n=>n,fun|23=>120|26=>9|3=>44|28=>116|0=>0|27=>115|33=>124|4=>4|n=>n,fun|n=>n⟩
theorem Tryz.MG:Go.Proofs.SlLaysZ.n7 prog Tryz.yB:={
 mixed:=by kernel_rfl
 f7:=⟨Tryz.f117.name,by decide,func117.trans (congrArg some cJ)⟩
 f10:=⟨Tryz.f207.name,by decide,func207.trans (congrArg some cJ)⟩
 t0:=underlying0
 a0:=isAgg0
 z0:=sizeOf0
 v0:=zeroValue0
 t4:=underlying4
 a4:=isAgg4
 z4:=sizeOf4
 v4:=zeroValue4
 t23:=underlying120
 a23:=isAgg120
 z23:=sizeOf120
 v23:=zeroValue120
 t26:=underlying9
 a26:=isAgg9
 z26:=sizeOf9
 v26:=zeroValue9
 t27:=underlying115
 a27:=isAgg115
 z27:=sizeOf115
 v27:=zeroValue115
 t28:=underlying116
 a28:=isAgg116
 z28:=sizeOf116
 v28:=zeroValue116
 t33:=underlying124
 a33:=isAgg124
 z33:=sizeOf124
 v33:=zeroValue124}
def Tryz.sV:af:=⟨fun|6=>116|8=>203|9=>56|11=>269|13=>121|12=>120|23=>222|24=>223|14=>213|15=>214|16=>215|17=>216|18=>217|19=>218|20=>219|21=>220|22=>221|25=>275|26=>276|27=>277|28=>278|29=>279|30=>280|31=>311|n=>n,fun|26=>9|28=>116|24=>28|0=>0|3=>3|37=>214|48=>29|50=>36|4=>4|40=>277|39=>276|45=>281|5=>5|9=>9|51=>328|55=>331|57=>352|58=>344|33=>124|n=>n,fun|n=>n⟩
theorem Tryz.NM:Go.Proofs.SlLaysZ.n6 prog Tryz.sV:={
 mixed:=by kernel_rfl
 f6:=⟨Tryz.f116.name,by decide,func116.trans (congrArg some cJ)⟩
 f8:=⟨Tryz.f203.name,by decide,func203.trans (congrArg some cJ)⟩
 f11:=⟨Tryz.f269.name,by decide,func269.trans (congrArg some cJ)⟩
 t0:=underlying0
 a0:=isAgg0
 z0:=sizeOf0
 v0:=zeroValue0
 t24:=underlying28
 a24:=isAgg28
 z24:=sizeOf28
 v24:=zeroValue28
 t26:=underlying9
 a26:=isAgg9
 z26:=sizeOf9
 v26:=zeroValue9
 t28:=underlying116
 a28:=isAgg116
 z28:=sizeOf116
 v28:=zeroValue116
 i26:=by kernel_rfl}
def Tryz.JF:af:=⟨fun|6=>56|8=>121|9=>120|19=>222|20=>223|21=>213|22=>214|23=>215|24=>216|25=>217|26=>218|27=>219|28=>220|29=>221|36=>275|31=>276|32=>277|37=>278|38=>279|39=>280|41=>311|n=>n,fun|27=>28|29=>9|3=>3|32=>214|26=>28|0=>0|44=>29|46=>36|4=>4|36=>277|35=>276|41=>281|5=>5|9=>9|53=>328|57=>331|63=>352|64=>344|n=>n,fun|n=>n⟩
theorem Tryz.Q7:Go.Proofs.SlLaysM.n6 prog Tryz.JF:={
 mixed:=by kernel_rfl
 f6:=⟨Tryz.f56.name,by decide,func56.trans (congrArg some cJ)⟩
 f8:=func121.trans (congrArg some cJ)
 f9:=⟨Tryz.f120.name,by decide,func120.trans (congrArg some cJ)⟩
 f19:=func222.trans (congrArg some cJ)
 f20:=func223.trans (congrArg some cJ)
 f21:=⟨Tryz.f213.name,by decide,func213.trans (congrArg some cJ)⟩
 f22:=⟨Tryz.f214.name,by decide,func214.trans (congrArg some cJ)⟩
 f23:=⟨Tryz.f215.name,by decide,func215.trans (congrArg some cJ)⟩
 f24:=⟨Tryz.f216.name,by decide,func216.trans (congrArg some cJ)⟩
 f25:=⟨Tryz.f217.name,by decide,func217.trans (congrArg some cJ)⟩
 f26:=⟨Tryz.f218.name,by decide,func218.trans (congrArg some cJ)⟩
 f27:=⟨Tryz.f219.name,by decide,func219.trans (congrArg some cJ)⟩
 f28:=⟨Tryz.f220.name,by decide,func220.trans (congrArg some cJ)⟩
 f29:=⟨Tryz.f221.name,by decide,func221.trans (congrArg some cJ)⟩
 f31:=func276.trans (congrArg some cJ)
 f32:=func277.trans (congrArg some cJ)
 f36:=⟨Tryz.f275.name,by decide,func275.trans (congrArg some cJ)⟩
 f37:=⟨Tryz.f278.name,by decide,func278.trans (congrArg some cJ)⟩
 f38:=⟨Tryz.f279.name,by decide,func279.trans (congrArg some cJ)⟩
 f39:=⟨Tryz.f280.name,by decide,func280.trans (congrArg some cJ)⟩
 f41:=⟨Tryz.f311.name,by decide,func311.trans (congrArg some cJ)⟩
 t0:=underlying0
 a0:=isAgg0
 z0:=sizeOf0
 v0:=zeroValue0
 t3:=underlying3
 a3:=isAgg3
 z3:=sizeOf3
 v3:=zeroValue3
 t4:=underlying4
 a4:=isAgg4
 z4:=sizeOf4
 v4:=zeroValue4
 t5:=underlying5
 a5:=isAgg5
 z5:=sizeOf5
 v5:=zeroValue5
 t9:=underlying9
 a9:=isAgg9
 z9:=sizeOf9
 v9:=zeroValue9
 t26:=underlying28
 a26:=isAgg28
 z26:=sizeOf28
 v26:=zeroValue28
 t27:=underlying28
 a27:=isAgg28
 z27:=sizeOf28
 v27:=zeroValue28
 t29:=underlying9
 a29:=isAgg9
 z29:=sizeOf9
 v29:=zeroValue9
 t32:=underlying214
 a32:=isAgg214
 z32:=sizeOf214
 v32:=zeroValue214
 t35:=underlying276
 a35:=isAgg276
 z35:=sizeOf276
 v35:=zeroValue276
 t36:=underlying277
 a36:=isAgg277
 z36:=sizeOf277
 v36:=zeroValue277
 t41:=underlying281
 a41:=isAgg281
 z41:=sizeOf281
 v41:=zeroValue281
 t44:=underlying29
 a44:=isAgg29
 z44:=sizeOf29
 v44:=zeroValue29
 t46:=underlying36
 a46:=isAgg36
 z46:=sizeOf36
 v46:=zeroValue36
 t53:=underlying328
 a53:=isAgg328
 z53:=sizeOf328
 v53:=zeroValue328
 t57:=underlying331
 a57:=isAgg331
 z57:=sizeOf331
 v57:=zeroValue331
 t63:=underlying352
 a63:=isAgg352
 z63:=sizeOf352
 v63:=zeroValue352
 t64:=underlying344
 a64:=isAgg344
 z64:=sizeOf344
 v64:=zeroValue344}
def Tryz.Kb:af:=⟨fun|5=>114|7=>206|n=>n,fun|23=>120|25=>9|3=>44|4=>4|20=>20|n=>n,fun|n=>n⟩
theorem Tryz.ZF:Go.Proofs.SlLaysW.n5 prog Tryz.Kb:={
 mixed:=by kernel_rfl
 f5:=⟨Tryz.f114.name,by decide,func114.trans (congrArg some cJ)⟩
 f7:=func206.trans (congrArg some cJ)
 t4:=underlying4
 a4:=isAgg4
 z4:=sizeOf4
 v4:=zeroValue4
 t20:=underlying20
 a20:=isAgg20
 z20:=sizeOf20
 v20:=zeroValue20
 t23:=underlying120
 a23:=isAgg120
 z23:=sizeOf120
 v23:=zeroValue120}
section
open Go.RowKit Go.Maps Go.Sort
theorem Tryz.Q6(m:Nat):AnyZ.SortsIn prog Tryz.sV aa m:=
 ⟨fun blk off cap ss W hH hblk hsz=>callsIn_wide.2 (AnyM.slices_Sort_string Tryz.Q7 blk off cap ss W hH hblk hsz),
  fun p cap W=>callsIn_wide.2 (AnyM.slices_Sort_string_none Tryz.Q7 p cap W)⟩
theorem Tryz.td(mb:Option Nat)(W:World):CallsIn aa 5 prog 117 #[.map mb] W fun e w'=>e=.returned (.func (.func 207) #[] #[.p W.heap.size])∧w'=W.alloc (.cells #[.map mb] 120):=
 AnyZ.keys_in Tryz.MG aa 5 trivial rfl mb W
theorem Tryz.nu{H:Type}(b nn:Nat)(D0:DataW H)(R:Value→Option (DataW H×List MemPlace))(w:World)(hown:w.ownsMap prog 9 R b nn D0)(hmax:Maps.size D0≤maxLen)(hbytes:Maps.size D0*16≤140737488355328):
  CallsIn aa 5 prog 116 #[.func (.func 207) #[] #[.p w.heap.size]] (w.alloc (.cells #[.map (some b)] 120)) fun e w'=>∃(v:Value) (ss:List (List UInt8)),e=.returned v∧ss.Perm (strKeys D0)∧
   w'.ownsRow (w.alloc (.cells #[.map (some b)] 120)).heap.size 9 1 v ss.length ((ss.mergeSort (fun x y=>decide (x≤y))).map encStr)∧(v=.n↔ss=[])∧Below (w.alloc (.cells #[.map (some b)] 120)).heap.size (w.alloc (.cells #[.map (some b)] 120)) w':=by
 have gQ:=hown.lt;have hseq:SeqGives aa 2 prog 207 #[.p w.heap.size] encStr (fun ss=>ss.Perm (strKeys D0)) (Maps.size D0) (w.alloc (.cells #[.map (some b)] 120)):=
  AnyZ.keys_gives (ρ:=Tryz.yB) {Tryz.MG with} aa _ trivial rfl cK w.heap.size b nn D0 _ cM cM (by
   obtain⟨es,clock,hb,Ft,hs,hD⟩:=hown;exact⟨es,clock,(Below.heap_alloc _ _ b gQ).trans hb,Ft,hs,hD⟩)
 exact AnyZ.sorted_in Tryz.NM aa 5 trivial trivial trivial trivial rfl cK (Tryz.Q6 _) (enters_of func56 cJ rfl) 207 #[.p w.heap.size] trivial (enters_of func207 cJ rfl) _ _ hmax hbytes _ hseq
end
end Go.Proofs
namespace Go.Proofs.YtdpaejbaoefdjaaGreatDoor
open Go.Proofs.Tryz
