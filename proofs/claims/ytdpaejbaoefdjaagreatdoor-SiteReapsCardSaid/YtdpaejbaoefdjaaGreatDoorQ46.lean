/- Part 46. -/
import Derived.Test.YtdpaejbaoefdjaaGreatDoorQ41
import Derived.LaidMore
open Go.DataW renaming LaidVars → aa
open Option.some renaming inj → af
namespace Go.Proofs.YtdpaejbaoefdjaaGreatDoor
open Go.Proofs.Tryz
set_option maxRecDepth 100000
set_option maxHeartbeats 64000000
set_option linter.unusedVariables false
set_option linter.unusedSimpArgs false
section
open Go.RowKit Go.Shelf Go.ChangeShapes Go.WideShapes Go.ChangeAt Go.Deep
theorem Er{P:Program}{w:World}{x:String×DataW Unit}{l:List (String×DataW Unit)}{ps:List MemPlace}(h:aa P w (x::l) ps):∃q,aa P w l q:=by
 obtain⟨g',t',cs,fuel,p,q,_,_,_,_,h1,h2⟩:=h;exact⟨q,h1⟩
theorem GY{W:World}{rest:List (String×DataW Unit)}{ps:List MemPlace}(h:aa prog W (("internal/strconv.uint64pow10",Lib.tabData .u64 Lib.pow10Tab)::rest) ps):gB W:=by
 obtain⟨g',t',cs,fuel,p,q,hg',ht',aj0,hd,_,_⟩:=h;obtain rfl:1=g':=af ((show prog.globalNamed "internal/strconv.uint64pow10" =some 1 by kernel_rfl).symm.trans hg');obtain rfl:377=t':=af ((show(prog.globals[1]?).map (·.type)=some 377 by kernel_rfl).symm.trans ht');have hc:=Lib.cells_of_tab underlying377 underlying36 cK cK hd;unfold gB Lib.TabIs;rw[aj0,←hc]
theorem Ta:(Rows.laid_internal_strconv_uint64pow10:DataW Unit)=Lib.tabData .u64 Lib.pow10Tab:=rfl
theorem xS{W:World}(h:laidMetH prog Rows.siteItemsRow.laid W):gB W:=by
 rw[MakeChecks.laidMetH_plain _ _ _ cK] at h;obtain⟨ps,hv,_⟩:=h;obtain⟨ps1,sZ⟩:=Er hv;obtain⟨ps2,qx⟩:=Er sZ;rw[Ta] at qx;exact GY qx
theorem GU{H:Type}{d:DataW H}(h:Rows.uptoSmall H [d]=true):Rows.uptoBulk d≤2000000:=by
 have:=of_decide_eq_true h;simp only[Rows.uptoBulkAll] at this;omega
section
variable{H:Type}{enc:TypeId×Value→H}{w:World}{base:Nat}{spare:Nat→Bool}{held:Bool}
theorem EU{v:Value}{d:DataW H}{p:List MemPlace}(h:DataW.Trod enc prog w base spare held 22 v d p){bb:Nat}(hv:Value.okWide prog w .any bb 22 v)(hb:Rows.uptoBulk d≤2000000):
  ∃a c L,v=.slice a (List.length L) c∧L.length≤maxLen∧CC w a L:=by
 obtain⟨a0,ajI,alv,rfl⟩:=okWide_slice underlying22 hv;obtain⟨fuel,hf⟩:=h;obtain⟨a,len,cap,m,Y,e1,hlc,hcm,hY,hsum,_,hat⟩:=nC (K:=23) underlying22 cK cL hf;simp[Value.cells] at e1;obtain⟨rfl,rfl,rfl⟩:=e1;obtain⟨L,hL,hR⟩:=mJ (fun k (x:jj)=>∃b off,a0=some ⟨b,off,none⟩∧b<w.heap.size∧w.rangeAt b (off+k*23) x.cells∧nV w x.X x.o x.i x.L x.fa∧jz w x.o x.X.od) ajI (fun k hk=>by
  have hy:Y[k]?=some Y[k]:=List.getElem?_eq_getElem cL;obtain⟨b,off,cs',g1,g2,g3,g4,g5⟩:=hat k _ hy;have hm:Rows.uptoBulk (Y[k]).1≤(Y.map (fun y=>Rows.uptoBulk y.1)).sum:=Nh (List.mem_map.2 ⟨_,List.mem_of_getElem? hy,rfl⟩);have hs:(Y.map (fun y=>Rows.uptoBulk y.1)).sum+1≤2000000:=Nat.le_trans hsum hb;obtain⟨X,o,i,L,fa,fc,e,q1,q2⟩:=Mf g5 cL;exact⟨⟨X,o,i,L,fa,fc⟩,b,off,g1,g2,by rw[←show cs'=jj.cells ⟨X,o,i,L,fa,fc⟩ from e];exact g4,q1,q2⟩)
 exact⟨a0,alv,L,by rw[hL],by omega,fun k x hx=>hR k x hx⟩
end
end
