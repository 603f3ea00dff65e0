/- Part 7. -/
import Derived.Test.YtdpaejbaoefdjaaGreatDoorChecked
import Derived.Test.YtdpaejbaoefdjaaGreatDoorG1
import Derived.WalkKit
open Go.Utf8 renaming decode → aa
namespace Go.Proofs.YtdpaejbaoefdjaaGreatDoor
open Go.Proofs.Tryz
set_option maxRecDepth 100000
set_option maxHeartbeats 64000000
set_option linter.unusedVariables false
set_option linter.unusedSimpArgs false
section
open Go.RowKit
theorem nO(w:World)(s:ByteArray)(pos:Nat):cE w (w.iter s pos):=(Below.refl _ w).alloc (Nat.le_refl _) _
theorem PZ{c:Nat}(h:Fz c=true):c=47∨(c<32∧¬c=47)∨(c=127)∨(c=65533):=by
 simp[Fz] at h;omega
theorem SU{c:Nat}(h:Fz c=false):¬c=47∧¬c<32∧¬c=127∧¬c=65533:=by
 simp[Fz] at h;omega
theorem Oz(s:ByteArray)(r:Bool)(hd:yD s=false)(hr:iI s s.size 0=r)(w:World):
  Calls prog 211 #[.string s] w fun e w'=>e=.returned (.i (if r then 0 else 30))∧cE w w':=by
 have h0:s.toList.isEmpty=false∧(s.toList==[46])=false∧(s.toList==[46,46])=false:=by
  simp only[yD,Bool.or_eq_false_iff] at hd;exact⟨hd.1.1,hd.1.2,hd.2⟩
 obtain⟨h0,h1,h2⟩:=h0;have HR:=cD hr;clear hr hd;go_enter func211,ntmps211
 go_wp2
 go_loopw [4] (fun _ w'=>∃pos b:Nat,w'=w.iter s pos∧Hid (iI s b pos=r)∧s.size≤pos+b) (fun _ w'=>s.size - w'.iterPos w.heap.size)
 case atStart=>exact⟨0,s.size,rfl,HR,by omega⟩
 obtain⟨pos,b,rfl,H,hb⟩:=hrel;clear HR;by_cases hp:pos<s.size
 ·have qG:∀ty,(Instr.next (.p w.heap.size) true ty).run prog (w.iter s pos)=_:=fun ty=>run_next_any w s pos ty hp
  have hle:=decode_le s pos;have hwd:=CQ s pos hp;obtain⟨b,rfl⟩:∃b',b=b'+1:=⟨b - 1,by omega⟩;have H2:=cD (DK s b pos hp▸H.out);clear H;generalize (aa s pos).1=c at*;generalize (aa s pos).2=wd at*;cases qh:Fz c with
  |true=>
   have hr:r=false:=by have:=H2.out;rw[qh] at this;simpa using this.symm
   subst hr;rcases PZ qh with rfl|⟨g1,g2⟩|rfl|rfl
   ·clear qh H2
    go_wp2
    go_ret
    exact⟨rfl,nO w s _⟩
   ·clear qh H2
    have t1:((c:Int)==47)=false:=by simp;omega
    go_wp2
    go_ret
    exact⟨rfl,nO w s _⟩
   ·clear qh H2
    go_wp2
    go_ret
    exact⟨rfl,nO w s _⟩
   clear qh H2;go_wp2
   go_ret
   exact⟨rfl,nO w s _⟩
  |false=>
  obtain⟨g1,g2,g3,g4⟩:=SU qh;have H3:Hid (iI s b (pos+wd)=r):=cD (by have:=H2.out;rw[qh] at this;simpa using this);clear qh H2;have t1:((c:Int)==47)=false:=by simp;omega
  have t3:((c:Int)==127)=false:=by simp;omega
  have t4:((c:Int)==65533)=false:=by simp;omega
  go_wp2
  go_roundw
  case rel=>exact⟨pos+wd,b,rfl,H3,by omega⟩
  simp;omega
 have qG:∀ty,(Instr.next (.p w.heap.size) true ty).run prog (w.iter s pos)=_:=fun ty=>run_next_end w s pos ty hp
 have hr:r=true:=by rw[←H.out];exact SV s b pos hp
 subst hr;clear H;go_wp2
 go_ret
 exact⟨rfl,nO w s _⟩
theorem RO(s:ByteArray)(hd:yD s=true)(w:World):Calls prog 211 #[.string s] w fun e w'=>e=.returned (.i 30)∧cE w w':=by
 have hc:s.toList.isEmpty=true∨(s.toList.isEmpty=false∧(s.toList==[46])=true)∨(s.toList.isEmpty=false∧(s.toList==[46])=false∧(s.toList==[46,46])=true):=by
  simp only[yD,Bool.or_eq_true] at hd;cases h0:s.toList.isEmpty<;>cases h1:(s.toList==[46])<;>simp_all
 clear hd;rcases hc with h0|⟨h0,h1⟩|⟨h0,h1,h2⟩
 all_goals
  go_enter func211,ntmps211
  go_wp2
  go_ret
  exact⟨rfl,Below.refl _ _⟩
theorem GU(s:ByteArray)(w:World):Calls prog 211 #[.string s] w fun e w'=>e=.returned (.i (if oB s then 0 else 30))∧cE w w':=by
 cases hd:yD s with
 |true=>
  have:oB s=false:=by simp[oB,hd]
  rw[this];exact RO s hd w
 |false=>
 have:oB s=iI s s.size 0:=by simp[oB,hd]
 rw[this];exact Oz s _ hd rfl w
theorem VP(s:ByteArray)(h:oB s=true)(w:World):Calls prog 211 #[.string s] w fun e w'=>e=.returned (.I)∧cE w w':=by
 have:=GU s w;rw[h] at this;exact this
theorem RP(s:ByteArray)(h:oB s=false)(w:World):Calls prog 211 #[.string s] w fun e w'=>e=.returned (.i 30)∧cE w w':=by
 have:=GU s w;rw[h] at this;exact this
theorem IG(s:ByteArray)(w:World):Calls prog 210 #[.string s] w fun e w'=>e=.returned (.bool (!oB s))∧cE w w':=by
 cases h:oB s with
 |true=>
  go_enter func210,ntmps210
  go_wp2_with (go_at_call 211;refine(VP s h _).mono ?_;rintro e w1 ⟨rfl,B1⟩)
  go_ret
  exact⟨rfl,B1⟩
 |false=>
 go_enter func210,ntmps210
 go_wp2_with (go_at_call 211;refine(RP s h _).mono ?_;rintro e w1 ⟨rfl,B1⟩)
 go_ret
 exact⟨rfl,B1⟩
def vZ(s:ByteArray)(j:Nat):Bool:=decide (j<s.size)&&(s.get! j).toNat / 64==2
theorem Ta(s:ByteArray)(j:Nat)(h:j<s.size):s.get! j=s[j]'h:=by
 have:=get_at s j h;simpa using this
section
variable(s:ByteArray)(i:Nat)
theorem By:aa s i=
  if (s.get! i).toNat<0x80 then ((s.get! i).toNat,1)
  else if ((s.get! i).toNat / 32==6&&vZ s (i+1))=true then
   (if ((s.get! i).toNat % 32)*64+(s.get! (i+1)).toNat % 64≥0x80 then (((s.get! i).toNat % 32)*64+(s.get! (i+1)).toNat % 64,2) else (65533,1))
  else if ((s.get! i).toNat / 16==14&&vZ s (i+1)&&vZ s (i+2))=true then
   (if (decide (((s.get! i).toNat % 16)*4096+((s.get! (i+1)).toNat % 64)*64+(s.get! (i+2)).toNat % 64≥0x800)&&Utf8.valid (((s.get! i).toNat % 16)*4096+((s.get! (i+1)).toNat % 64)*64+(s.get! (i+2)).toNat % 64:Nat))=true
    then (((s.get! i).toNat % 16)*4096+((s.get! (i+1)).toNat % 64)*64+(s.get! (i+2)).toNat % 64,3) else (65533,1))
  else if ((s.get! i).toNat / 8==30&&vZ s (i+1)&&vZ s (i+2)&&vZ s (i+3))=true then
   (if (decide (((s.get! i).toNat % 8)*262144+((s.get! (i+1)).toNat % 64)*4096+((s.get! (i+2)).toNat % 64)*64+(s.get! (i+3)).toNat % 64≥0x10000)&&Utf8.valid (((s.get! i).toNat % 8)*262144+((s.get! (i+1)).toNat % 64)*4096+((s.get! (i+2)).toNat % 64)*64+(s.get! (i+3)).toNat % 64:Nat))=true
    then (((s.get! i).toNat % 8)*262144+((s.get! (i+1)).toNat % 64)*4096+((s.get! (i+2)).toNat % 64)*64+(s.get! (i+3)).toNat % 64,4) else (65533,1))
  else (65533,1):=rfl
end
end
