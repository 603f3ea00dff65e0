/- Part 10. -/
import Derived.Shelf.Strings.OnBuilder
import Derived.Shelf.Small.Wraps
import Derived.Shelf.Strconv.Itoa1
import Derived.Shelf.Strconv.Itoa2
import Derived.Shelf.Strings.Shaped
import Derived.Shelf.Strings.Split
import Derived.Shelf.Strings.Repeat
import Derived.Shelf.Unicode.DecodeSlow
import Derived.Shelf.Slices.Clone
import Derived.Shelf.Slices.CompactS
import Derived.Shelf.Slices.Empties2
import Derived.Shelf.SlicesE.Equal
import Derived.Shelf.SlicesE.Clone
import Derived.Shelf.SlicesE.IndexFunc
import Derived.Shelf.SortM.Plain
import Derived.Shelf.SortM.SortNone
import Derived.Shelf.Bytes.SlEqualAll
import Derived.Test.YtdpaejbaoefdjaaGreatDoorProg
import Derived.Test.YtdpaejbaoefdjaaGreatDoorG0
open Go.Shelf renaming Ren → aa
open Go renaming World → af,Calls → ag
open ByteArray renaming empty → ah
open Go.Lib renaming compact → aj,countB → an
namespace Go.Proofs.YtdpaejbaoefdjaaGreatDoor
open Go.Proofs.Tryz
set_option maxRecDepth 100000
set_option maxHeartbeats 64000000
set_option linter.unusedVariables false
set_option linter.unusedSimpArgs false
end Go.Proofs.YtdpaejbaoefdjaaGreatDoor
namespace Go.Proofs
open Go.Proofs.Tryz
open Go.Shelf
def Tryz.yy:aa:=⟨fun|156=>212|165=>272|166=>273|169=>274|240=>309|241=>310|276=>327|277=>328|n=>n,fun|31=>28|9=>9|3=>3|4=>4|0=>0|20=>20|72=>322|76=>326|70=>320|37=>32|75=>325|127=>351|164=>365|5=>5|80=>245|n=>n,fun|n=>n⟩
theorem Tryz.VZ:Go.Proofs.Lays.n156 prog Tryz.yy:={
 mixed:=by kernel_rfl
 f156:=func212.trans (congrArg some cJ)
 f165:=func272.trans (congrArg some cJ)
 f166:=func273.trans (congrArg some cJ)
 f169:=func274.trans (congrArg some cJ)
 f240:=func309.trans (congrArg some cJ)
 f241:=func310.trans (congrArg some cJ)
 f276:=func327.trans (congrArg some cJ)
 f277:=func328.trans (congrArg some cJ)
 t0:=underlying0
 a0:=isAgg0
 z0:=sizeOf0
 v0:=zeroValue0
 t3:=underlying3
 a3:=isAgg3
 z3:=sizeOf3
 v3:=zeroValue3
 t4:=underlying4
 a4:=isAgg4
 z4:=sizeOf4
 v4:=zeroValue4
 t9:=underlying9
 a9:=isAgg9
 z9:=sizeOf9
 v9:=zeroValue9
 t20:=underlying20
 a20:=isAgg20
 z20:=sizeOf20
 v20:=zeroValue20
 t31:=underlying28
 a31:=isAgg28
 z31:=sizeOf28
 v31:=zeroValue28
 t37:=underlying32
 a37:=isAgg32
 z37:=sizeOf32
 v37:=zeroValue32
 t70:=underlying320
 a70:=isAgg320
 z70:=sizeOf320
 v70:=zeroValue320
 t72:=underlying322
 a72:=isAgg322
 z72:=sizeOf322
 v72:=zeroValue322
 t75:=underlying325
 a75:=isAgg325
 z75:=sizeOf325
 v75:=zeroValue325
 t76:=underlying326
 a76:=isAgg326
 z76:=sizeOf326
 v76:=zeroValue326
 t127:=underlying351
 a127:=isAgg351
 z127:=sizeOf351
 v127:=zeroValue351
 t164:=underlying365
 a164:=isAgg365
 z164:=sizeOf365
 v164:=zeroValue365}
theorem Tryz.wN:Builder.Extra prog Tryz.yy:={
 sizeBuilder:=by kernel_rfl
 liesBuilder:=by kernel_rfl
 t5:=underlying5
 a5:=isAgg5
 z5:=sizeOf5
 v5:=zeroValue5
 infoByte:=by kernel_rfl
 cellsByte:=by kernel_rfl
 sizeByte:=by kernel_rfl
 neB5:=by decide}
open Go.RowKit in
theorem strings_Join(bk o c:Nat)(xs:List ByteArray)(sep:ByteArray)(w:af)(hcells:∀(j:Nat) x,xs[j]?=some x→w.cell? ⟨bk,o+j,none⟩=some (.string x))(hbk:bk<w.heap.size)(hN:xs.length≤140737488355328)(hcap:xs.length≤c)(hlen:(Lib.join (xs.map (·.data.toList)) sep.data.toList).length≤140737488355328):
  ag prog 212 #[.slice (some ⟨bk,o,none⟩) xs.length c,.string sep] w fun e w'=>e=.returned (.string ⟨(Lib.join (xs.map (·.data.toList)) sep.data.toList).toArray⟩)∧cE w w':=Any.strings_Join Tryz.VZ Tryz.wN bk o c xs sep w hcells hbk hN hcap hlen
def Tryz.Hq:aa:=⟨fun|103=>208|210=>270|206=>305|n=>n,fun|9=>9|4=>4|24=>271|3=>3|n=>n,fun|n=>n⟩
theorem Tryz.V4:Go.Proofs.Lays.n103 prog Tryz.Hq:={
 mixed:=by kernel_rfl
 f103:=func208.trans (congrArg some cJ)
 f206:=func305.trans (congrArg some cJ)
 f210:=func270.trans (congrArg some cJ)
 t3:=underlying3
 a3:=isAgg3
 z3:=sizeOf3
 v3:=zeroValue3
 t4:=underlying4
 a4:=isAgg4
 z4:=sizeOf4
 v4:=zeroValue4
 t9:=underlying9
 a9:=isAgg9
 z9:=sizeOf9
 v9:=zeroValue9
 t24:=underlying271
 a24:=isAgg271
 z24:=sizeOf271
 v24:=zeroValue271}
open Go.RowKit in
theorem strings_CutPrefix(s p:ByteArray)(w:af):
  ag prog 208 #[.string s,.string p] w fun e w'=>e=.returned (.tuple #[.string ⟨(Lib.trimPrefix s.data.toList p.data.toList).toArray⟩,.bool (Lib.hasPrefix s.data.toList p.data.toList)])∧w'=w:=Any.strings_CutPrefix Tryz.V4 s p w
def Tryz.Hp:aa:=⟨fun|146=>209|221=>271|268=>306|138=>307|143=>308|195=>323|197=>324|218=>325|219=>326|260=>335|217=>336|225=>337|224=>338|267=>339|266=>344|314=>345|n=>n,fun|9=>9|31=>28|3=>3|4=>4|0=>0|105=>362|21=>21|5=>5|46=>214|119=>379|139=>382|138=>381|146=>372|51=>29|n=>n,fun|1=>0|3=>2|4=>3|n=>n⟩
theorem Tryz.V0:Go.Proofs.Lays.n146 prog Tryz.Hp:={
 mixed:=by kernel_rfl
 f138:=func307.trans (congrArg some cJ)
 f143:=func308.trans (congrArg some cJ)
 f146:=func209.trans (congrArg some cJ)
 f195:=func323.trans (congrArg some cJ)
 f197:=func324.trans (congrArg some cJ)
 f217:=func336.trans (congrArg some cJ)
 f218:=func325.trans (congrArg some cJ)
 f219:=func326.trans (congrArg some cJ)
 f221:=func271.trans (congrArg some cJ)
 f224:=func338.trans (congrArg some cJ)
 f225:=func337.trans (congrArg some cJ)
 f260:=func335.trans (congrArg some cJ)
 f266:=func344.trans (congrArg some cJ)
 f267:=func339.trans (congrArg some cJ)
 f268:=func306.trans (congrArg some cJ)
 f314:=func345.trans (congrArg some cJ)
 t0:=underlying0
 a0:=isAgg0
 z0:=sizeOf0
 v0:=zeroValue0
 t3:=underlying3
 a3:=isAgg3
 z3:=sizeOf3
 v3:=zeroValue3
 t4:=underlying4
 a4:=isAgg4
 z4:=sizeOf4
 v4:=zeroValue4
 t5:=underlying5
 a5:=isAgg5
 z5:=sizeOf5
 v5:=zeroValue5
 t9:=underlying9
 a9:=isAgg9
 z9:=sizeOf9
 v9:=zeroValue9
 t21:=underlying21
 a21:=isAgg21
 z21:=sizeOf21
 v21:=zeroValue21
 t31:=underlying28
 a31:=isAgg28
 z31:=sizeOf28
 v31:=zeroValue28
 t46:=underlying214
 a46:=isAgg214
 z46:=sizeOf214
 v46:=zeroValue214
 t51:=underlying29
 a51:=isAgg29
 z51:=sizeOf29
 v51:=zeroValue29
 t105:=underlying362
 a105:=isAgg362
 z105:=sizeOf362
 v105:=zeroValue362
 t119:=underlying379
 a119:=isAgg379
 z119:=sizeOf379
 t138:=underlying381
 a138:=isAgg381
 z138:=sizeOf381
 v138:=zeroValue381
 t139:=underlying382
 a139:=isAgg382
 z139:=sizeOf382
 v139:=zeroValue382
 t146:=underlying372
 a146:=isAgg372
 z146:=sizeOf372
 v146:=zeroValue372
 g1:=by kernel_rfl
 g3:=by kernel_rfl
 g4:=by kernel_rfl}
open Go.RowKit Go.Lib in
theorem strings_Split(s sep:ByteArray)(m:Int)(w:af)(hs:s.size<4294967281)(hm:w.cell? ⟨0,0,none⟩=some (.i m))(h1:1≤sep.size):
  ag prog 209 #[.string s,.string sep] w fun e w'=>
   e=.returned (.slice (some ⟨w.heap.size,0,none⟩) (an s sep+1) (an s sep+1))∧w'=w.alloc (.cells ((Lib.splitB sep 0 (an s sep) s).map Value.string).toArray 9):=Any.strings_Split Tryz.V0 cJ s sep m w hs hm h1
def Tryz.Ho:aa:=⟨fun|193=>96|n=>n,fun|31=>28|9=>9|4=>4|3=>3|0=>0|n=>n,fun|n=>n⟩
theorem Tryz.ME:Go.Proofs.Lays.n193 prog Tryz.Ho:={
 mixed:=by kernel_rfl
 f193:=func96.trans (congrArg some cJ)
 t0:=underlying0
 a0:=isAgg0
 z0:=sizeOf0
 v0:=zeroValue0
 t3:=underlying3
 a3:=isAgg3
 z3:=sizeOf3
 v3:=zeroValue3
 t4:=underlying4
 a4:=isAgg4
 z4:=sizeOf4
 v4:=zeroValue4
 t9:=underlying9
 a9:=isAgg9
 z9:=sizeOf9
 v9:=zeroValue9
 t31:=underlying28
 a31:=isAgg28
 z31:=sizeOf28
 v31:=zeroValue28}
open Go.RowKit Go.Lib in
theorem slices_Equal_string(b1 o1 n c b2 o2 m d:Nat)(xs ys:List ByteArray)(w:af)(hx:n≤xs.length)(hy:m≤ys.length)(hbig:n≤9223372036854775807)(hbig2:m≤9223372036854775807)(hc1:∀j,j<xs.length→w.cell? ⟨b1,o1+j,none⟩=some (.string (xs.getD j ah)))(hc2:∀j,j<ys.length→w.cell? ⟨b2,o2+j,none⟩=some (.string (ys.getD j ah))):
  ag prog 96 #[.slice (some ⟨b1,o1,none⟩) n c,.slice (some ⟨b2,o2,none⟩) m d] w fun e w'=>e=.returned (.bool (decide (xs.take n=ys.take m)))∧∃q,w'=w.drewN q:=Any.slices_Equal_string Tryz.ME b1 o1 n c b2 o2 m d xs ys w hx hy hbig hbig2 hc1 hc2
open Go.RowKit Go.Lib in
theorem slices_Equal_string_empty(a1 a2:Option Addr)(c m d:Nat)(w:af)(hbig2:m≤9223372036854775807):
  ag prog 96 #[.slice a1 0 c,.slice a2 m d] w fun e w'=>e=.returned (.bool (decide (m=0)))∧w'=w:=Any.slices_Equal_string_empty Tryz.ME a1 a2 c m d w hbig2
end Go.Proofs
namespace Go.Proofs.YtdpaejbaoefdjaaGreatDoor
open Go.Proofs.Tryz
end Go.Proofs.YtdpaejbaoefdjaaGreatDoor
namespace Go.Proofs
open Go.Proofs.Tryz
open Go.Shelf
def Tryz.Cp:aa:=⟨fun|16=>41|n=>n,fun|24=>28|9=>9|4=>4|n=>n,fun|n=>n⟩
theorem Tryz.xD:Go.Proofs.Lays2.n16 prog Tryz.Cp:={
 mixed:=by kernel_rfl
 f16:=func41.trans (congrArg some cJ)
 t4:=underlying4
 a4:=isAgg4
 z4:=sizeOf4
 v4:=zeroValue4
 t9:=underlying9
 a9:=isAgg9
 z9:=sizeOf9
 v9:=zeroValue9
 t24:=underlying28
 a24:=isAgg28
 z24:=sizeOf28
 v24:=zeroValue28
 i9:=by kernel_rfl}
open Go.RowKit Go.Lib in
theorem slices_Clone_string(b off n c:Nat)(zs:List ByteArray)(w:af)(hz:n≤zs.length)(hbig:n*16≤140737488355328)(hc:∀j,j<zs.length→w.cell? ⟨b,off+j,none⟩=some (.string (zs.getD j ah))):
  ag prog 41 #[.slice (some ⟨b,off,none⟩) n c] w fun e w'=>∃v',e=.returned v'∧w'.ownsRow w.heap.size 9 1 v' n ((zs.take n).map (Value.string))∧v'≠.n∧cE w w':=Any.slices_Clone_string Tryz.xD b off n c zs w hz hbig hc
open Go.RowKit Go.Lib in
theorem slices_Clone_string_nil(n c:Nat)(w:af):
  ag prog 41 #[.slice none n c] w fun e w'=>e=.returned (.n)∧w'=w:=Any.slices_Clone_string_nil Tryz.xD n c w
open Go.RowKit Go.Lib in
theorem slices_Clone_string_zero(a:Addr)(c:Nat)(w:af):
  ag prog 41 #[.slice (some a) 0 c] w fun e w'=>∃v',e=.returned v'∧w'.ownsRow w.heap.size 9 1 v' 0 []∧v'≠.n∧cE w w':=Any.slices_Clone_string_zero Tryz.xD a c w
def Tryz.Hl:aa:=⟨fun|194=>102|n=>n,fun|31=>28|9=>9|3=>3|4=>4|0=>0|n=>n,fun|n=>n⟩
theorem Tryz.VY:Go.Proofs.Lays.n194 prog Tryz.Hl:={
 mixed:=by kernel_rfl
 f194:=func102.trans (congrArg some cJ)
 t0:=underlying0
 a0:=isAgg0
 z0:=sizeOf0
 v0:=zeroValue0
 t3:=underlying3
 a3:=isAgg3
 z3:=sizeOf3
 v3:=zeroValue3
 t4:=underlying4
 a4:=isAgg4
 z4:=sizeOf4
 v4:=zeroValue4
 t9:=underlying9
 a9:=isAgg9
 z9:=sizeOf9
 v9:=zeroValue9
 t31:=underlying28
 a31:=isAgg28
 z31:=sizeOf28
 v31:=zeroValue28}
open Go.RowKit Go.Lib Go.Sort in
theorem slices_Compact_string(blk off cap:Nat)(zs:List (List UInt8))(w:af)(hH:Holds encStr w blk off zs.toArray)(hsz:zs.length≤9223372036854775807)(hcap:zs.length≤cap):
  ag prog 102 #[.slice (some ⟨blk,off,none⟩) zs.length cap] w fun e w'=>e=.returned (.slice (some ⟨blk,off,none⟩) (aj zs).length cap)∧∃q,w'=putRow encStr (Sort.ahead w q) blk off (aj zs++List.replicate (zs.length - (aj zs).length) []).toArray:=Any.slices_Compact_string Tryz.VY blk off cap zs w hH hsz hcap
def Tryz.xC:aa:=⟨fun|6=>56|8=>121|9=>120|19=>222|20=>223|21=>213|22=>214|23=>215|24=>216|25=>217|26=>218|27=>219|28=>220|29=>221|36=>275|31=>276|32=>277|37=>278|38=>279|39=>280|41=>311|n=>n,fun|27=>28|29=>9|3=>3|32=>214|26=>28|0=>0|44=>29|46=>36|4=>4|36=>277|35=>276|41=>281|5=>5|9=>9|53=>328|57=>331|63=>352|64=>344|n=>n,fun|n=>n⟩
theorem Tryz.vG:Go.Proofs.SlLaysM.n6 prog Tryz.xC:={
 mixed:=by kernel_rfl
 f6:=⟨Tryz.f56.name,by decide,func56.trans (congrArg some cJ)⟩
 f8:=func121.trans (congrArg some cJ)
 f9:=⟨Tryz.f120.name,by decide,func120.trans (congrArg some cJ)⟩
 f19:=func222.trans (congrArg some cJ)
 f20:=func223.trans (congrArg some cJ)
 f21:=⟨Tryz.f213.name,by decide,func213.trans (congrArg some cJ)⟩
 f22:=⟨Tryz.f214.name,by decide,func214.trans (congrArg some cJ)⟩
 f23:=⟨Tryz.f215.name,by decide,func215.trans (congrArg some cJ)⟩
 f24:=⟨Tryz.f216.name,by decide,func216.trans (congrArg some cJ)⟩
 f25:=⟨Tryz.f217.name,by decide,func217.trans (congrArg some cJ)⟩
 f26:=⟨Tryz.f218.name,by decide,func218.trans (congrArg some cJ)⟩
 f27:=⟨Tryz.f219.name,by decide,func219.trans (congrArg some cJ)⟩
 f28:=⟨Tryz.f220.name,by decide,func220.trans (congrArg some cJ)⟩
 f29:=⟨Tryz.f221.name,by decide,func221.trans (congrArg some cJ)⟩
 f31:=func276.trans (congrArg some cJ)
 f32:=func277.trans (congrArg some cJ)
 f36:=⟨Tryz.f275.name,by decide,func275.trans (congrArg some cJ)⟩
 f37:=⟨Tryz.f278.name,by decide,func278.trans (congrArg some cJ)⟩
 f38:=⟨Tryz.f279.name,by decide,func279.trans (congrArg some cJ)⟩
 f39:=⟨Tryz.f280.name,by decide,func280.trans (congrArg some cJ)⟩
 f41:=⟨Tryz.f311.name,by decide,func311.trans (congrArg some cJ)⟩
 t0:=underlying0
 a0:=isAgg0
 z0:=sizeOf0
 v0:=zeroValue0
 t3:=underlying3
 a3:=isAgg3
 z3:=sizeOf3
 v3:=zeroValue3
 t4:=underlying4
 a4:=isAgg4
 z4:=sizeOf4
 v4:=zeroValue4
 t5:=underlying5
 a5:=isAgg5
 z5:=sizeOf5
 v5:=zeroValue5
 t9:=underlying9
 a9:=isAgg9
 z9:=sizeOf9
 v9:=zeroValue9
 t26:=underlying28
 a26:=isAgg28
 z26:=sizeOf28
 v26:=zeroValue28
 t27:=underlying28
 a27:=isAgg28
 z27:=sizeOf28
 v27:=zeroValue28
 t29:=underlying9
 a29:=isAgg9
 z29:=sizeOf9
 v29:=zeroValue9
 t32:=underlying214
 a32:=isAgg214
 z32:=sizeOf214
 v32:=zeroValue214
 t35:=underlying276
 a35:=isAgg276
 z35:=sizeOf276
 v35:=zeroValue276
 t36:=underlying277
 a36:=isAgg277
 z36:=sizeOf277
 v36:=zeroValue277
 t41:=underlying281
 a41:=isAgg281
 z41:=sizeOf281
 v41:=zeroValue281
 t44:=underlying29
 a44:=isAgg29
 z44:=sizeOf29
 v44:=zeroValue29
 t46:=underlying36
 a46:=isAgg36
 z46:=sizeOf36
 v46:=zeroValue36
 t53:=underlying328
 a53:=isAgg328
 z53:=sizeOf328
 v53:=zeroValue328
 t57:=underlying331
 a57:=isAgg331
 z57:=sizeOf331
 v57:=zeroValue331
 t63:=underlying352
 a63:=isAgg352
 z63:=sizeOf352
 v63:=zeroValue352
 t64:=underlying344
 a64:=isAgg344
 z64:=sizeOf344
 v64:=zeroValue344}
open Go.Sort Go.RowKit in
theorem slices_Sort_string(blk off cap:Nat)(ss:List (List UInt8))(w:af)(hH:Holds encStr w blk off ss.toArray)(hblk:blk<w.heap.size)(hsz:ss.length<4611686018427387904):
  ag prog 56 #[.slice (some ⟨blk,off,none⟩) ss.length cap] w fun e w'=>
   e=.returned (.tuple #[])∧∃n os,w'=grow (putRow encStr (Sort.ahead w n) blk off (ss.mergeSort fun x y=>decide (x≤y)).toArray) os:=AnyM.slices_Sort_string Tryz.vG blk off cap ss w hH hblk hsz
open Go.RowKit Go.Sort in
theorem slices_Sort_string_none(p:Option Addr)(cap:Nat)(w:af):
  ag prog 56 #[.slice p 0 cap] w fun e w'=>e=.returned (.tuple #[])∧w'=w:=AnyM.slices_Sort_string_none Tryz.vG p cap w
end Go.Proofs
namespace Go.Proofs.YtdpaejbaoefdjaaGreatDoor
open Go.Proofs.Tryz
end Go.Proofs.YtdpaejbaoefdjaaGreatDoor
namespace Go.Proofs
open Go.Proofs.Tryz
open Go.Shelf
def Tryz.Hj:aa:=⟨fun|283=>329|n=>n,fun|3=>3|9=>9|4=>4|n=>n,fun|n=>n⟩
theorem Tryz.VX:Go.Proofs.Lays.n283 prog Tryz.Hj:={
 mixed:=by kernel_rfl
 f283:=func329.trans (congrArg some cJ)
 t3:=underlying3
 a3:=isAgg3
 z3:=sizeOf3
 v3:=zeroValue3
 t4:=underlying4
 a4:=isAgg4
 z4:=sizeOf4
 v4:=zeroValue4
 t9:=underlying9
 a9:=isAgg9
 z9:=sizeOf9
 v9:=zeroValue9}
open Go.Lib in
theorem Tryz.internal_strconv_small(i:Nat)(h:i<100)(w:af):
  ag prog 329 #[.i i] w fun e w'=>e=.returned (.string ⟨(Lib.decDigits i).toArray⟩)∧w'=w:=Any.internal_strconv_small Tryz.VX i h w
def Tryz.EV:aa:=⟨fun|284=>330|129=>223|317=>340|318=>341|n=>n,fun|53=>36|3=>3|212=>377|0=>0|4=>4|46=>214|5=>5|9=>9|n=>n,fun|17=>1|n=>n⟩
theorem Tryz.R9:Go.Proofs.LaysM.n284 prog Tryz.EV:={
 mixed:=by kernel_rfl
 f129:=func223.trans (congrArg some cJ)
 f284:=func330.trans (congrArg some cJ)
 f317:=func340.trans (congrArg some cJ)
 f318:=func341.trans (congrArg some cJ)
 t0:=underlying0
 a0:=isAgg0
 z0:=sizeOf0
 v0:=zeroValue0
 t3:=underlying3
 a3:=isAgg3
 z3:=sizeOf3
 v3:=zeroValue3
 t4:=underlying4
 a4:=isAgg4
 z4:=sizeOf4
 v4:=zeroValue4
 t5:=underlying5
 a5:=isAgg5
 z5:=sizeOf5
 v5:=zeroValue5
 t9:=underlying9
 a9:=isAgg9
 z9:=sizeOf9
 v9:=zeroValue9
 t46:=underlying214
 a46:=isAgg214
 z46:=sizeOf214
 v46:=zeroValue214
 t53:=underlying36
 a53:=isAgg36
 z53:=sizeOf36
 v53:=zeroValue36
 t212:=underlying377
 a212:=isAgg377
 z212:=sizeOf377
 v212:=zeroValue377
 g17:=by kernel_rfl
 i0:=by kernel_rfl
 i3:=by kernel_rfl
 i4:=by kernel_rfl
 i5:=by kernel_rfl
 i9:=by kernel_rfl
 i46:=by kernel_rfl
 i53:=by kernel_rfl
 i212:=by kernel_rfl
 m17:=by kernel_rfl}
open Go.Lib in
theorem Tryz.internal_strconv_numDigits(u:Nat)(h1:1≤u)(h2:u<18446744073709551616)(w:af)(htab:Lib.TabIs prog w "internal/strconv.uint64pow10" .u64 Lib.pow10Tab):
  ag prog 330 #[.v u] w fun e w'=>e=.returned (.i (Lib.nDigits u))∧w'=w:=Any.internal_strconv_numDigits Tryz.R9 u h1 h2 w htab
def Tryz.Hi:aa:=⟨fun|285=>331|n=>n,fun|37=>32|53=>36|3=>3|4=>4|51=>29|9=>9|5=>5|0=>0|n=>n,fun|n=>n⟩
theorem Tryz.VW:Go.Proofs.Lays.n285 prog Tryz.Hi:={
 mixed:=by kernel_rfl
 f285:=func331.trans (congrArg some cJ)
 t0:=underlying0
 a0:=isAgg0
 z0:=sizeOf0
 v0:=zeroValue0
 t3:=underlying3
 a3:=isAgg3
 z3:=sizeOf3
 v3:=zeroValue3
 t4:=underlying4
 a4:=isAgg4
 z4:=sizeOf4
 v4:=zeroValue4
 t5:=underlying5
 a5:=isAgg5
 z5:=sizeOf5
 v5:=zeroValue5
 t9:=underlying9
 a9:=isAgg9
 z9:=sizeOf9
 v9:=zeroValue9
 t37:=underlying32
 a37:=isAgg32
 z37:=sizeOf32
 v37:=zeroValue32
 t51:=underlying29
 a51:=isAgg29
 z51:=sizeOf29
 v51:=zeroValue29
 t53:=underlying36
 a53:=isAgg36
 z53:=sizeOf36
 v53:=zeroValue36}
open Go.RowKit Go.Sort Go.Lib in
theorem Tryz.internal_strconv_formatBase10(blk off cap:Nat)(u:Nat)(d:Array UInt8)(w:af)(hH:Holds (fun(b:UInt8)=>Value.int .u8 (b.toNat:Int)) w blk off d)(hu:u<10 ^ d.size)(hu64:u<18446744073709551616)(hsz:d.size<4611686018427387904):
  ag prog 331 #[.slice (some ⟨blk,off,none⟩) d.size cap,.v u] w fun e w'=>
   e=.returned (.tuple #[])∧∃(n v':Nat) (dk:Array UInt8),w'=(putRow (fun(b:UInt8)=>Value.int .u8 (b.toNat:Int)) w blk off dk).drewN n∧FmtInv d.size u 0 v' dk:=Any.internal_strconv_formatBase10 Tryz.VW blk off cap u d w hH hu hu64 hsz
def Tryz.yz:aa:=⟨fun|105=>292|212=>317|99=>318|165=>272|166=>273|170=>319|169=>274|263=>333|264=>334|206=>305|240=>309|241=>310|276=>327|277=>328|n=>n,fun|9=>9|3=>3|4=>4|20=>20|0=>0|46=>214|109=>357|5=>5|72=>322|76=>326|51=>29|146=>372|53=>36|148=>374|70=>320|37=>32|75=>325|127=>351|164=>365|80=>245|n=>n,fun|n=>n⟩
theorem Tryz.V3:Go.Proofs.Lays.n105 prog Tryz.yz:={
 mixed:=by kernel_rfl
 f99:=func318.trans (congrArg some cJ)
 f105:=func292.trans (congrArg some cJ)
 f165:=func272.trans (congrArg some cJ)
 f166:=func273.trans (congrArg some cJ)
 f169:=func274.trans (congrArg some cJ)
 f170:=func319.trans (congrArg some cJ)
 f206:=func305.trans (congrArg some cJ)
 f212:=func317.trans (congrArg some cJ)
 f240:=func309.trans (congrArg some cJ)
 f241:=func310.trans (congrArg some cJ)
 f263:=func333.trans (congrArg some cJ)
 f264:=func334.trans (congrArg some cJ)
 f276:=func327.trans (congrArg some cJ)
 f277:=func328.trans (congrArg some cJ)
 t0:=underlying0
 a0:=isAgg0
 z0:=sizeOf0
 v0:=zeroValue0
 t3:=underlying3
 a3:=isAgg3
 z3:=sizeOf3
 v3:=zeroValue3
 t4:=underlying4
 a4:=isAgg4
 z4:=sizeOf4
 v4:=zeroValue4
 t5:=underlying5
 a5:=isAgg5
 z5:=sizeOf5
 v5:=zeroValue5
 t9:=underlying9
 a9:=isAgg9
 z9:=sizeOf9
 v9:=zeroValue9
 t20:=underlying20
 a20:=isAgg20
 z20:=sizeOf20
 v20:=zeroValue20
 t37:=underlying32
 a37:=isAgg32
 z37:=sizeOf32
 v37:=zeroValue32
 t46:=underlying214
 a46:=isAgg214
 z46:=sizeOf214
 v46:=zeroValue214
 t51:=underlying29
 a51:=isAgg29
 z51:=sizeOf29
 v51:=zeroValue29
 t53:=underlying36
 a53:=isAgg36
 z53:=sizeOf36
 v53:=zeroValue36
 t70:=underlying320
 a70:=isAgg320
 z70:=sizeOf320
 v70:=zeroValue320
 t72:=underlying322
 a72:=isAgg322
 z72:=sizeOf322
 v72:=zeroValue322
 t75:=underlying325
 a75:=isAgg325
 z75:=sizeOf325
 v75:=zeroValue325
 t76:=underlying326
 a76:=isAgg326
 z76:=sizeOf326
 v76:=zeroValue326
 t109:=underlying357
 a109:=isAgg357
 z109:=sizeOf357
 v109:=zeroValue357
 t127:=underlying351
 a127:=isAgg351
 z127:=sizeOf351
 v127:=zeroValue351
 t146:=underlying372
 a146:=isAgg372
 z146:=sizeOf372
 v146:=zeroValue372
 t148:=underlying374
 a148:=isAgg374
 z148:=sizeOf374
 v148:=zeroValue374
 t164:=underlying365
 a164:=isAgg365
 z164:=sizeOf365
 v164:=zeroValue365}
theorem Tryz.wO:Builder.Extra prog Tryz.yz:={
 sizeBuilder:=by kernel_rfl
 liesBuilder:=by kernel_rfl
 t5:=underlying5
 a5:=isAgg5
 z5:=sizeOf5
 v5:=zeroValue5
 infoByte:=by kernel_rfl
 cellsByte:=by kernel_rfl
 sizeByte:=by kernel_rfl
 neB5:=by decide}
open Go.RowKit Go.Lib in
theorem strings_Repeat(s:ByteArray)(c:Nat)(w:af)(hc:c≤9223372036854775807)(hlen:s.size*c≤140737488355328):
  ag prog 292 #[.string s,.i c] w fun e w'=>e=.returned (.string ⟨(Lib.repeatL s.data.toList c).toArray⟩)∧cE w w':=Any.strings_Repeat Tryz.V3 Tryz.wO s c w hc hlen
end Go.Proofs
namespace Go.Proofs.YtdpaejbaoefdjaaGreatDoor
open Go.Proofs.Tryz
