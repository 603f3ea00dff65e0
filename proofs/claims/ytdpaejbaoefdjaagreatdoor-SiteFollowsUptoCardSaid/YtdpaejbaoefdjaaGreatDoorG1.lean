/- Part 1. -/
import Derived.Laws.RangeAny
import Derived.Lib.Split
import Derived.Lib.Join
import Derived.Test.YtdpaejbaoefdjaaGreatDoorG0
open Go.Utf8 renaming decode → aa
open List renaming length_cons → af,foldl_cons → ag
open UInt8 renaming ofNat → ah
open Nat renaming pow_succ → aj,mul_comm → an
namespace Go.Proofs.YtdpaejbaoefdjaaGreatDoor
open Go.Proofs.Tryz
set_option maxRecDepth 100000
set_option maxHeartbeats 64000000
set_option linter.unusedVariables false
set_option linter.unusedSimpArgs false
section
open Go.Lib
abbrev cO:=List UInt8
def bs(l:cO):ByteArray:=⟨l.toArray⟩
abbrev _root_.Go.Value.s(l:List UInt8):Value:=.string (bs l)
theorem sE(s:ByteArray):bs s.data.toList=s:=Lib.mk_data s
theorem gU(l:cO):(bs l).data.toList=l:=by simp[bs]
theorem oU(l:cO):(bs l).toList=l:=by rw[Lib.toList_data,gU]
theorem fL(l:cO):(bs l).size=l.length:=by rw[Lib.size_eq,gU]
def Fz(c:Nat):Bool:=c==47||decide (c<32)||c==127||c==65533
def iI(s:ByteArray):Nat→Nat→Bool
 |0,_=>true
 |b+1,pos=>if pos<s.size then !Fz (aa s pos).1&&iI s b (pos+(aa s pos).2) else true
def yD(s:ByteArray):Bool:=s.toList.isEmpty||s.toList==[46]||s.toList==[46,46]
def oB(s:ByteArray):Bool:=!yD s&&iI s s.size 0
theorem CQ(s:ByteArray)(pos:Nat)(h:pos<s.size):1≤(aa s pos).2:=by
 by_cases ha:(s[pos]'h).toNat<128
 ·rw[decode_ascii s pos h ha]
  exact Nat.le_refl _
 exact(decode_high s pos h cK).2
theorem SV(s:ByteArray)(b pos:Nat)(h:¬pos<s.size):iI s b pos=true:=by
 cases b with
 |zero=>rfl
 |succ b=>simp[iI,h]
theorem DK(s:ByteArray)(b pos:Nat)(h:pos<s.size):iI s (b+1) pos=(!Fz (aa s pos).1&&iI s b (pos+(aa s pos).2)):=by simp[iI,h]
def gJ:cO→List cO
 |[]=>[[]]
 |c::r=>if c=47 then []::gJ r else match gJ r with
  |[]=>[[c]]
  |h::t=>(c::h)::t
def dG:cO→Option (List cO)
 |[]=>none
 |c::r=>if c=47∧r.length<64 then (if r=[] then some [] else if (gJ r).all (fun x=>oB (bs x)) then some (gJ r) else none) else none
def zn(L:List cO):cO:=47::[47].intercalate L
end
def dw:Nat→Nat→cO
 |0,_=>[]
 |n+1,v=>ah (v / 256 ^ n % 256)::dw n v
theorem dD:∀(n v:Nat),(dw n v).length=n
 |0,_=>rfl
 |n+1,v=>by unfold dw;rw[af,dD n v]
theorem GJ:∀(n v j k:Nat),j+k+1=n→(dw n v)[j]?=some (ah (v / 256 ^ k % 256))
 |0,v,j,k,h=>by omega
 |n+1,v,0,k,h=>by
  have:k=n:=by omega
  subst this;rfl
 |n+1,v,j+1,k,h=>by
  unfold dw;rw[List.getElem?_cons_succ];exact GJ n v j k cK
def mo(L:cO):Nat:=L.foldl (fun v c=>v*256+c.toNat) 0
theorem Nx(L:cO)(c:UInt8):mo (L++[c])=mo L*256+c.toNat:=by unfold mo;rw[List.foldl_append];rfl
theorem wW:∀(L:cO) (v:Nat),L.foldl (fun v c=>v*256+c.toNat) v=v*256 ^ L.length+mo L
 |[],v=>by simp[mo]
 |c::L,v=>by
  have h:mo (c::L)=c.toNat*256 ^ L.length+mo L:=by
   show List.foldl (fun v c=>v*256+c.toNat) 0 (c::L)=_;rw[ag,wW L (0*256+c.toNat)];simp
  rw[ag,wW L (v*256+c.toNat),h,af,aj,Nat.add_mul,Nat.mul_assoc,an 256,Nat.add_assoc]
theorem CU(c:UInt8)(L:cO):mo (c::L)=c.toNat*256 ^ L.length+mo L:=by
 show List.foldl (fun v c=>v*256+c.toNat) 0 (c::L)=_;rw[ag,wW L (0*256+c.toNat)];simp
theorem El:∀(L:cO),mo L<256 ^ L.length
 |[]=>by simp[mo]
 |c::L=>by
  have h1:=El L;have h2:c.toNat<256:=c.toNat_lt;rw[CU,af,aj];have h3:c.toNat*256 ^ L.length+256 ^ L.length≤256*256 ^ L.length:=by
   have:=Nat.mul_le_mul_right (256 ^ L.length) (show c.toNat+1≤256 by omega);rw[Nat.add_mul,Nat.one_mul] at this;exact this
  rw[an (256 ^ L.length)];omega
theorem F0:∀(n v:Nat),mo (dw n v)=v % 256 ^ n
 |0,v=>by simp[dw,mo,Nat.mod_one]
 |n+1,v=>by
  unfold dw;rw[CU,F0 n v,dD];have h:(ah (v / 256 ^ n % 256)).toNat=v / 256 ^ n % 256:=by
   rw[UInt8.toNat_ofNat'];exact Nat.mod_eq_of_lt (Nat.mod_lt _ cL)
  rw[h,aj,Nat.mod_mul,an,Nat.add_comm]
theorem wV{n v:Nat}(h:v<256 ^ n):mo (dw n v)=v:=by rw[F0,Nat.mod_eq_of_lt h]
