/- Part 1. -/
import Derived.Laws.RangeAny
import Derived.Lib.Split
import Derived.Lib.Join
import Derived.Test.YtdpaejbaoefdjaaGreatDoorQ0
open Go.Utf8 renaming decode → aa
open List renaming length_cons → af,foldl_cons → ag
open UInt8 renaming ofNat → ah
open Nat renaming pow_succ → aj,mul_comm → an
namespace Go.Proofs.YtdpaejbaoefdjaaGreatDoor
open Go.Proofs.Tryz
set_option maxRecDepth 100000
set_option maxHeartbeats 64000000
set_option linter.unusedVariables false
set_option linter.unusedSimpArgs false
section
open Go.Lib
abbrev cP:=List UInt8
def bs(l:cP):ByteArray:=⟨l.toArray⟩
abbrev _root_.Go.Value.s(l:List UInt8):Value:=.string (bs l)
theorem sP(s:ByteArray):bs s.data.toList=s:=Lib.mk_data s
theorem gr(l:cP):(bs l).data.toList=l:=by simp[bs]
theorem o6(l:cP):(bs l).toList=l:=by rw[Lib.toList_data,gr]
theorem eP(l:cP):(bs l).size=l.length:=by rw[Lib.size_eq,gr]
def Gu(c:Nat):Bool:=c==47||decide (c<32)||c==127||c==65533
def iE(s:ByteArray):Nat→Nat→Bool
 |0,_=>true
 |b+1,pos=>if pos<s.size then !Gu (aa s pos).1&&iE s b (pos+(aa s pos).2) else true
def zh(s:ByteArray):Bool:=s.toList.isEmpty||s.toList==[46]||s.toList==[46,46]
def oC(s:ByteArray):Bool:=!zh s&&iE s s.size 0
theorem Dy(s:ByteArray)(pos:Nat)(h:pos<s.size):1≤(aa s pos).2:=by
 by_cases ha:(s[pos]'h).toNat<128
 ·rw[decode_ascii s pos h ha]
  exact Nat.le_refl _
 exact(decode_high s pos h cL).2
theorem Uv(s:ByteArray)(b pos:Nat)(h:¬pos<s.size):iE s b pos=true:=by
 cases b with
 |zero=>rfl
 |succ b=>simp[iE,h]
theorem EJ(s:ByteArray)(b pos:Nat)(h:pos<s.size):iE s (b+1) pos=(!Gu (aa s pos).1&&iE s b (pos+(aa s pos).2)):=by simp[iE,h]
def gE:cP→List cP
 |[]=>[[]]
 |c::r=>if c=47 then []::gE r else match gE r with
  |[]=>[[c]]
  |h::t=>(c::h)::t
def dx:cP→Option (List cP)
 |[]=>none
 |c::r=>if c=47∧r.length<64 then (if r=[] then some [] else if (gE r).all (fun x=>oC (bs x)) then some (gE r) else none) else none
def zX(L:List cP):cP:=47::[47].intercalate L
end
def dI:Nat→Nat→cP
 |0,_=>[]
 |n+1,v=>ah (v / 256 ^ n % 256)::dI n v
theorem dw:∀(n v:Nat),(dI n v).length=n
 |0,_=>rfl
 |n+1,v=>by unfold dI;rw[af,dw n v]
theorem Iq:∀(n v j k:Nat),j+k+1=n→(dI n v)[j]?=some (ah (v / 256 ^ k % 256))
 |0,v,j,k,h=>by omega
 |n+1,v,0,k,h=>by
  have:k=n:=by omega
  subst this;rfl
 |n+1,v,j+1,k,h=>by
  unfold dI;rw[List.getElem?_cons_succ];exact Iq n v j k cL
def mG(L:cP):Nat:=L.foldl (fun v c=>v*256+c.toNat) 0
theorem OU(L:cP)(c:UInt8):mG (L++[c])=mG L*256+c.toNat:=by unfold mG;rw[List.foldl_append];rfl
theorem xJ:∀(L:cP) (v:Nat),L.foldl (fun v c=>v*256+c.toNat) v=v*256 ^ L.length+mG L
 |[],v=>by simp[mG]
 |c::L,v=>by
  have h:mG (c::L)=c.toNat*256 ^ L.length+mG L:=by
   show List.foldl (fun v c=>v*256+c.toNat) 0 (c::L)=_;rw[ag,xJ L (0*256+c.toNat)];simp
  rw[ag,xJ L (v*256+c.toNat),h,af,aj,Nat.add_mul,Nat.mul_assoc,an 256,Nat.add_assoc]
theorem DD(c:UInt8)(L:cP):mG (c::L)=c.toNat*256 ^ L.length+mG L:=by
 show List.foldl (fun v c=>v*256+c.toNat) 0 (c::L)=_;rw[ag,xJ L (0*256+c.toNat)];simp
theorem Fl:∀(L:cP),mG L<256 ^ L.length
 |[]=>by simp[mG]
 |c::L=>by
  have h1:=Fl L;have h2:c.toNat<256:=c.toNat_lt;rw[DD,af,aj];have h3:c.toNat*256 ^ L.length+256 ^ L.length≤256*256 ^ L.length:=by
   have:=Nat.mul_le_mul_right (256 ^ L.length) (show c.toNat+1≤256 by omega);rw[Nat.add_mul,Nat.one_mul] at this;exact this
  rw[an (256 ^ L.length)];omega
theorem GR:∀(n v:Nat),mG (dI n v)=v % 256 ^ n
 |0,v=>by simp[dI,mG,Nat.mod_one]
 |n+1,v=>by
  unfold dI;rw[DD,GR n v,dw];have h:(ah (v / 256 ^ n % 256)).toNat=v / 256 ^ n % 256:=by
   rw[UInt8.toNat_ofNat'];exact Nat.mod_eq_of_lt (Nat.mod_lt _ cM)
  rw[h,aj,Nat.mod_mul,an,Nat.add_comm]
theorem DC{n v:Nat}(h:v<256 ^ n):mG (dI n v)=v:=by rw[GR,Nat.mod_eq_of_lt h]
