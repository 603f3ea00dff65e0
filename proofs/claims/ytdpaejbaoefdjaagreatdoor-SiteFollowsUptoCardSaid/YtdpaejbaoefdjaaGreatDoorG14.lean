/- Part 14. -/
import Derived.Test.YtdpaejbaoefdjaaGreatDoorG13
import Derived.Deep.Slices
import Derived.Deep.MidRow
open List renaming getElem?_eq_some_iff → aa,getElem?_eq_getElem → af
open Go.World renaming cells?_some → ag
namespace Go.Proofs.YtdpaejbaoefdjaaGreatDoor
open Go.Proofs.Tryz
set_option maxRecDepth 100000
set_option maxHeartbeats 64000000
set_option linter.unusedVariables false
set_option linter.unusedSimpArgs false
section
open Go.RowKit Go.ChangeShapes Go.WideShapes Go.Deep
theorem dR{w w':World}{B b o:Nat}{cs:List Value}(h:w.rangeAt b o cs)(hb:Below B w w')(hl:b<B):w'.rangeAt b o cs:=
 fun j v hv=>(hb.cell (p:=⟨b,o+j,none⟩) hl).trans (h j v hv)
section
variable{H:Type}{enc:TypeId×Value→H}{P:Program}{w:World}{base:Nat}{spare:Nat→Bool}{held:Bool}
theorem NW{t e:TypeId}(ht:P.underlying t=some (.slice e)){K:Nat}(hK:P.cellsOf e=K)(hpos:0<K){fuel:Nat}{cs:List Value}{x:DataW H×List MemPlace}
  (h:DataW.trod enc P w base spare held fuel t cs=some x):
  ∃ao len cap,cs=[.slice ao len cap]∧len≤cap∧cap≤maxLen∧∀i,i<len→∃b off cs' n' y,ao=some ⟨b,off,none⟩∧b<w.heap.size∧cs'.length=K∧w.rangeAt b (off+i*K) cs'∧DataW.trod enc P w base spare held n' e cs'=some y:=by
 rcases open_slice ht h with ⟨rfl,_⟩|⟨a,len,cap,m,n,D,Pl,rfl,_,hl,hm,UM,_,hi⟩
 ·exact⟨none,0,0,rfl,Nat.le_refl _,Nat.zero_le _,fun i hi=>absurd hi (Nat.not_lt_zero _)⟩
 have hlm:len≤m:=by rw[UM];split<;>omega
 refine⟨some a,len,cap,rfl,hl,hm,fun i hil=>?_⟩;have hsp:a.spot=none:=by
  obtain⟨cs0,hc0,_⟩:=hi 0 cK;obtain⟨_,hl0,Ij⟩:=ag hc0;rw[hK] at hl0 Ij;have g:=Ij 0 hpos;rw[af cK] at g;cases hs:a.spot with
  |none=>rfl
  |some q=>
  exfalso
  simp only[Nat.zero_mul,Addr.add,if_true] at g;simp only[World.cell?,hs,Option.isSome_some,if_true] at g;split at g<;>cases g
 obtain⟨b,off,spot⟩:=a;dsimp only at hsp;subst hsp;obtain⟨cs',hc,htr⟩:=hi i cK;obtain⟨_,hlen,hat⟩:=ag hc;rw[hK] at hlen hat;have hcell:w.rangeAt b (off+i*K) cs':=by
  intro j v hv;have hj:j<K:=by rw[←hlen];exact(aa.1 hv).1
  have g:=hat j hj;rw[hv,add_add,Addr.add_mid] at g;rw[Nat.add_assoc];exact g
 refine⟨b,off,cs',n,_,rfl,?_,hlen,hcell,htr⟩;obtain⟨v,hv⟩:∃v,cs'[0]?=some v:=⟨_,af cK⟩;exact World.block_lt_of_cell? w _ (hcell 0 v hv)
end
theorem oC{α:Type}(R:Nat→α→Prop):∀n,(∀i,i<n→∃a,R i a)→∃L:List α,L.length=n∧∀i a,L[i]?=some a→R i a
 |0,_=>⟨[],rfl,fun i p h=>by simp at h⟩
 |k+1,key=>by
  obtain⟨A,hA,hat⟩:=oC R k (fun i hi=>key i cK);obtain⟨a,ha⟩:=key k cK;refine⟨A++[a],by simp[hA],fun i q hq=>?_⟩;by_cases hik:i<k
  ·rw[List.getElem?_append_left cK] at hq
   exact hat i q hq
  ·have hlt:=(aa.1 hq).1
   simp[hA] at hlt;obtain rfl:i=k:=by omega
   rw[List.getElem?_append_right cK,hA] at hq;simp at hq;subst hq;exact ha
def gZ(w:World)(B:Nat)(ao:Option Addr)(L:List cO):Prop:=∀k p,L[k]?=some p→∃b off,ao=some ⟨b,off,none⟩∧b<B∧w.cell? ⟨b,off+k,none⟩=some (.s p)
theorem gZ.kept{w w':World}{B:Nat}{ao:Option Addr}{L:List cO}(h:gZ w B ao L)(hb:Below B w w'):gZ w' B ao L:=fun k p hk=>by
 obtain⟨b,off,h1,h2,h3⟩:=h k p hk;exact⟨b,off,h1,h2,(hb.cell (p:=⟨b,off+k,none⟩) h2).trans h3⟩
theorem gZ.mono{w:World}{B B':Nat}{ao:Option Addr}{L:List cO}(h:gZ w B ao L)(hB:B≤B'):gZ w B' ao L:=fun k p hk=>by
 obtain⟨b,off,h1,h2,h3⟩:=h k p hk;exact⟨b,off,h1,by omega,h3⟩
theorem gZ.nil(w:World)(B:Nat)(ao:Option Addr):gZ w B ao []:=fun k p h=>by simp at h
theorem wm:prog.cellsOf 9=1:=by kernel_rfl
end
