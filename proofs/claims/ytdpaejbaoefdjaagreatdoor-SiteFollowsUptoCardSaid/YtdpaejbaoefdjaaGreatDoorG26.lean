/- Part 26. -/
import Derived.Test.YtdpaejbaoefdjaaGreatDoorG24
import Derived.Lib.AppendIntMem
open Array renaming size_replicate → aa
open Go.Lib renaming zeros24 → af,nDigits → ag,decDigits → ah,decDigits_length → aq
open Go.Value renaming int → aj
open Go.Program renaming arrayLen → an
namespace Go.Proofs.YtdpaejbaoefdjaaGreatDoor
open Go.Proofs.Tryz
set_option maxRecDepth 100000
set_option maxHeartbeats 64000000
set_option linter.unusedVariables false
set_option linter.unusedSimpArgs false
section
open Go.RowKit Go.Shelf Go.MapKept Go.ChangeMaps Go.Maps Go.Sort
def iz(w:World):Prop:=Lib.TabIs prog w "internal/strconv.uint64pow10" .u64 Lib.pow10Tab
theorem CB(u:Nat)(h1:100≤u)(hu:u<18446744073709551616)(w:World)(htab:iz w):
  Calls prog 316 #[.v u,.i 10] w fun e w'=>e=.returned (.string (bs (ah u)))∧cE w w':=by
 have alJ:ag u≤20:=by have:=Lib.numDigits_eq u cK hu;split at this<;>omega
 have t1:decide ((u:Int)<100)=false:=by simp;omega
 have hal:prog.arrayLen 368=24:=by simp[an,underlying368]
 have aoz:∀W,(Instr.sliceAt 368 (.p w.heap.size) none (some (.i (ag u:Int))) none).run prog W=.ok (.slice (some ⟨w.heap.size,0,none⟩) (ag u) 24) W:=fun W=>by
  rw[run_sliceAt_array_h W 368 ⟨w.heap.size,0,none⟩ (by simp[an,Program.elem,underlying368]) .i64 (ag u:Int) cK (by rw[hal];omega)];go_simp
 have hH0:=Lib.holds_zero0 w 368 (ag u) cK;have hfmt:=Tryz.internal_strconv_formatBase10 w.heap.size 0 24 u (Array.replicate (ag u) 0) (w.alloc (.cells af 368)) hH0 (by rw[aa];exact Lib.lt_pow_nDigits u) hu (by rw[aa];omega);rw[aa] at hfmt;have pJ:=Tryz.internal_strconv_numDigits u cK hu (w.alloc (.cells af 368)) (Lib.tabIs_alloc htab _);have HH0:=cD hH0;have HF:=cD hfmt;have HN:=cD pJ;clear hH0 hal hfmt pJ;go_enter func316,ntmps316
 go_wp2_with fail
 refine HN.out.mono ?_;rintro e w1 ⟨rfl,rfl⟩;go_wp2_with fail
 refine HF.out.mono ?_;rintro e w1 ⟨rfl,k,v',dk,rfl,hF⟩;have hcv:(convert 32 9 (.slice (some ⟨w.heap.size,0,none⟩) (ag u) 24)).run prog ((putRow (fun(b:UInt8)=>aj .u8 (b.toNat:Int)) (w.alloc (.cells af 368)) w.heap.size 0 dk).drewN k)=.ok (.string (bs (ah u))) ((putRow (fun(b:UInt8)=>aj .u8 (b.toNat:Int)) (w.alloc (.cells af 368)) w.heap.size 0 dk).drewN k):=by
  have h:=run_convert_bytes_back (P:=prog) ((putRow (fun(b:UInt8)=>aj .u8 (b.toNat:Int)) (w.alloc (.cells af 368)) w.heap.size 0 dk).drewN k) 32 9 5 ⟨w.heap.size,0,none⟩ 24 (ah u) underlying32 underlying5 underlying9 (fun j hj=>by
   rw[Lib.row_is_numeral hF j hj,Lib.add_plain,World.cell?_drewN];exact cell?_putRow (fun(b:UInt8)=>aj .u8 (b.toNat:Int)) _ w.heap.size 0 _ dk HH0.out (by rw[hF.size,aa]) j (by rw[hF.size];rw[aq] at hj;exact hj))
  rw[aq] at h;exact h
 obtain⟨os,eo⟩:=Lib.fin_at w (.cells af 368) dk k 0;have gQ:cE w ((putRow (fun(b:UInt8)=>aj .u8 (b.toNat:Int)) (w.alloc (.cells af 368)) w.heap.size 0 dk).drewN k):=by rw[eo];exact Lib.below_grow w.heap.size w (Nat.le_refl _) k os
 have HB:=cD gQ;clear eo gQ hF;go_wp2
 go_ret
 exact⟨rfl,HB.out⟩
theorem WM(u:Nat)(hu:u<18446744073709551616)(w:World)(htab:100≤u→iz w):Calls prog 291 #[.v u,.i 10] w fun e w'=>e=.returned (.string (bs (ah u)))∧cE w w':=by
 by_cases h:u<100
 ·exact(Pu u h w).mono fun e w' ⟨h1,h2⟩=>⟨h1,by rw[h2];exact Below.refl _ _⟩
 have hs:=cD (CB u cK hu w (htab cK));clear h htab;go_enter func291,ntmps291
 go_wp2_with fail
 refine hs.out.mono ?_;rintro e w1 ⟨rfl,hb⟩;have HB:=cD hb;clear hb;go_wp2
 go_ret
 exact⟨rfl,HB.out⟩
end
