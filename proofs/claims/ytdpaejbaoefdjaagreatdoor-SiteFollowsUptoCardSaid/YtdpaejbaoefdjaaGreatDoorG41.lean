/- Part 41. -/
import Derived.Test.YtdpaejbaoefdjaaGreatDoorG40
import Derived.LaidMore
import Derived.Test.YtdpaejbaoefdjaaGreatDoorG3
open Go.DataW renaming LaidVars → aa,Trod → aj
open Go.Value renaming okWide → af
open Option.some renaming inj → ag
open Go renaming MemPlace → ah,DataW → an
namespace Go.Proofs.YtdpaejbaoefdjaaGreatDoor
open Go.Proofs.Tryz
set_option maxRecDepth 100000
set_option maxHeartbeats 64000000
set_option linter.unusedVariables false
set_option linter.unusedSimpArgs false
section
open Go.RowKit Go.Shelf Go.ChangeShapes Go.WideShapes Go.ChangeAt Go.Deep
theorem Dt{P:Program}{w:World}{x:String×an Unit}{l:List (String×an Unit)}{ps:List ah}(h:aa P w (x::l) ps):∃q,aa P w l q:=by
 obtain⟨g',t',cs,fuel,p,q,_,_,_,_,h1,h2⟩:=h;exact⟨q,h1⟩
theorem F8{W:World}{rest:List (String×an Unit)}{ps:List ah}(h:aa prog W (("internal/strconv.uint64pow10",Lib.tabData .u64 Lib.pow10Tab)::rest) ps):iz W:=by
 obtain⟨g',t',cs,fuel,p,q,hg',ht',ah3,hd,_,_⟩:=h;obtain rfl:1=g':=ag ((show prog.globalNamed "internal/strconv.uint64pow10" =some 1 by kernel_rfl).symm.trans hg');obtain rfl:377=t':=ag ((show(prog.globals[1]?).map (·.type)=some 377 by kernel_rfl).symm.trans ht');have hc:=Lib.cells_of_tab underlying377 underlying36 cJ cJ hd;unfold iz Lib.TabIs;rw[ah3,←hc]
theorem Ru:(Rows.laid_internal_strconv_uint64pow10:an Unit)=Lib.tabData .u64 Lib.pow10Tab:=rfl
theorem N9{W:World}(h:laidMetH prog Rows.siteItemsRow.laid W):iz W:=by
 rw[MakeChecks.laidMetH_plain _ _ _ cJ] at h;obtain⟨ps,hv,_⟩:=h;obtain⟨ps1,sN⟩:=Dt hv;obtain⟨ps2,qg⟩:=Dt sN;rw[Ru] at qg;exact F8 qg
section
variable{H:Type}{enc:TypeId×Value→H}{w:World}{base:Nat}{spare:Nat→Bool}{held:Bool}
theorem Px{v:Value}{d:an H}{p:List ah}(h:aj enc prog w base spare held 22 v d p){bb:Nat}(hv:af prog w .any bb 22 v)(hb:Rows.uptoBulk d≤2000000):
  ∃a c L,v=.slice a (List.length L) c∧L.length≤maxLen∧LX w a L:=by
 obtain⟨a0,ahL,ajz,rfl⟩:=okWide_slice underlying22 hv;obtain⟨fuel,hf⟩:=h;obtain⟨a,len,cap,m,Y,e1,hlc,hcm,hY,hsum,_,hat⟩:=ny (K:=23) underlying22 cJ cK hf;simp[Value.cells] at e1;obtain⟨rfl,rfl,rfl⟩:=e1;obtain⟨L,hL,hR⟩:=oC (fun k (x:qv)=>∃b off,a0=some ⟨b,off,none⟩∧b<w.heap.size∧w.rangeAt b (off+k*23) x.cells∧pV w x.X x.o x.i x.L x.fa∧ki w x.o x.X.oP) ahL (fun k hk=>by
  have hy:Y[k]?=some Y[k]:=List.getElem?_eq_getElem cK;obtain⟨b,off,cs',g1,g2,g3,g4,g5⟩:=hat k _ hy;have hm:Rows.uptoBulk (Y[k]).1≤(Y.map (fun y=>Rows.uptoBulk y.1)).sum:=Mc (List.mem_map.2 ⟨_,List.mem_of_getElem? hy,rfl⟩);have hs:(Y.map (fun y=>Rows.uptoBulk y.1)).sum+1≤2000000:=Nat.le_trans hsum hb;obtain⟨X,o,i,L,fa,fc,e,q1,q2⟩:=KS g5 cK;exact⟨⟨X,o,i,L,fa,fc⟩,b,off,g1,g2,by rw[←show cs'=qv.cells ⟨X,o,i,L,fa,fc⟩ from e];exact g4,q1,q2⟩)
 exact⟨a0,ajz,L,by rw[hL],by omega,fun k x hx=>hR k x hx⟩
end
end
section
open Go.RowKit Go.ChangeShapes Go.WideShapes Go.Deep
theorem QM{H:Type}{d d2:an H}(h:Rows.uptoSmall H [d,d2]=true):Rows.uptoBulk d≤2000000:=by
 have:=of_decide_eq_true h;simp only[Rows.uptoBulkAll] at this;omega
theorem zh{H:Type}(enc:TypeId×Value→H)(W:World)
  (v0:Value) (d0:an H) (p0:List ah) (h0:aj enc prog W 0 (fun _=>true) true 22 v0 d0 p0) (o0:∃b,af prog W .any b 22 v0)
  (v1:Value) (d1:an H) (p1:List ah) (h1:aj enc prog W 0 (fun _=>true) true 5 v1 d1 p1) (o1:∃b,af prog W .any b 5 v1)
  (hk:Rows.uptoSmall H [d0,d1]=true) (hm:dM W) (PT:iz W):
  Calls prog 5 #[v0,v1] W fun e W'=>e=.returned (.T)∧cE W W':=by
 have hk:=QM hk;obtain⟨b0,o0⟩:=o0;obtain⟨a,c,L,rfl,hl,hat⟩:=Px h0 o0 hk;obtain⟨bb1,o1⟩:=o1;obtain⟨x1,rfl,rfl,rfl,w1⟩:=open_int underlying5 o1 h1;have b1:=ae7 w1;obtain⟨q,rfl⟩:∃n:Nat,x1=n:=⟨x1.toNat,by omega⟩;exact Im hm PT a c L hat hl q cK
end
