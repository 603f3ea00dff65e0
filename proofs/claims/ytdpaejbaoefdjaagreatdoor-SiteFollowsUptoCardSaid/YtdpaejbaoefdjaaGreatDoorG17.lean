/- Part 17. -/
import Derived.Test.YtdpaejbaoefdjaaGreatDoorG16
import Derived.Deep.RegionHeld3
open Go.Region renaming ready → aa,wanted → af,noSelect → an,free → ay,binds → aC,Mode → aG
open Go renaming wpAnyH → ag,World → ah,Oper → aj,yielded → aq,Value → au,execOp → aB,getD_set_ne → aE,wp_region_held_drew → aF,undef → aJ,wpOpIn → aL,TypeId → aM,mem_ready → aQ,Operand → aR
open Go.Act renaming put_comm → aA
open Array renaming replicate → aD,getD → aP
open Go.Code renaming region → aH
open Go.Oper renaming wp → aI,wpIn → aK,uponIn → aN
open Go.RowKit.Below renaming refl → aO
namespace Go.Proofs.YtdpaejbaoefdjaaGreatDoor
open Go.Proofs.Tryz
set_option maxRecDepth 100000
set_option maxHeartbeats 64000000
set_option linter.unusedVariables false
set_option linter.unusedSimpArgs false
section
open Go.RowKit Go.Shelf Go.MapKept Go.ChangeMaps Go.Maps Go.Sort
section
variable{P:Program}{l:List Oper}{Q:Exit→Act→World→Prop}{md:Region.Mode}{S:World→Prop}
theorem gh{i:Nat}{oi:aj}{r:List aj}(h:l.drop i=oi::r):l.toArray[i]?=some oi:=by
 have h1:(l.drop i)[0]?=some oi:=by rw[h];rfl
 rw[List.getElem?_drop,Nat.add_zero] at h1;simpa using h1
theorem jd(i:Nat){oi:aj}{r:List aj}{v:au}{fuel:Nat}{listed:Array Bool}{a:Act}{w:ah}(hi:l.drop i=oi::r)
  (hs:an l.toArray=true) (hf:ay md l.toArray listed i=true) (hr:(aa md l.toArray listed).contains i=true)
  (hw:af oi (aq l.toArray a.tmps)=true) (hS:S w) (hy:∀w',S w'→(aB a.eval oi).run P w'=.ok (.value v) w')
  (hQ:∀c a w,Q (.panic c) (a.put oi.dst v) w→Q (.panic c) a w)
  (h:ag P md l.toArray Q S fuel (listed.setIfInBounds i true) (a.put oi.dst v) w):ag P md l.toArray Q S (fuel+1) listed a w:=
 wpAnyH_take (gh hi) hs hf hr hQ (.inl ⟨hw,hy⟩) hS h
theorem CV(i:Nat){oi:aj}{r:List aj}{fuel:Nat}{listed:Array Bool}{a:Act}{w:ah}(hi:l.drop i=oi::r)
  (hs:an l.toArray=true) (hf:ay md l.toArray listed i=true) (hr:(aa md l.toArray listed).contains i=true)
  (hw:af oi (aq l.toArray a.tmps)=true) (hS:S w) (ty:aM) (x:aR) (ho:oi.op=.load ty x)
  (b o:Nat) (hx:a.eval x=.pointer (some ⟨b,o,none⟩)) (cs:List au) (d:TypeDesc) (hc:∀w',S w'→w'.rangeAt b o cs)
  (hu:P.underlying ty=some d) (hd:d.isRow=true) (hn:(P.info? ty).map (·.size)=some cs.length)
  (hQ:∀c a w,Q (.panic c) (a.put oi.dst (.agg cs.toArray)) w→Q (.panic c) a w)
  (h:ag P md l.toArray Q S fuel (listed.setIfInBounds i true) (a.put oi.dst (.agg cs.toArray)) w):ag P md l.toArray Q S (fuel+1) listed a w:=
 wpAnyH_take (gh hi) hs hf hr hQ (yieldsIf_load_mid hw ty x ho b o hx cs d hc hu hd hn) hS h
theorem QZ(i:Nat){oi:aj}{r:List aj}{fuel:Nat}{listed:Array Bool}{a:Act}{w:ah}(hi:l.drop i=oi::r)
  (hs:an l.toArray=true) (hf:ay md l.toArray listed i=true) (hr:(aa md l.toArray listed).contains i=true)
  (hw:af oi (aq l.toArray a.tmps)=false) (hS:S w)
  (hQ:∀c a w,Q (.panic c) (a.put oi.dst aJ) w→Q (.panic c) a w)
  (h:ag P md l.toArray Q S fuel (listed.setIfInBounds i true) (a.put oi.dst aJ) w):ag P md l.toArray Q S (fuel+1) listed a w:=
 wpAnyH_take (gh hi) hs hf hr hQ (.inr ⟨hw,rfl⟩) hS h
theorem Aw(i:Nat){oi:aj}{r:List aj}{fuel:Nat}{listed:Array Bool}{a:Act}{w:ah}(hi:l.drop i=oi::r)
  (hr:aa md l.toArray listed=[i]) (hw:af oi (aq l.toArray a.tmps)=true)
  (h:aI P oi a w (fun a' w'=>S w'∧ag P md l.toArray Q S fuel (listed.setIfInBounds i true) a' w') Q):ag P md l.toArray Q S (fuel+1) listed a w:=by
 refine wpAnyH_all hr cM fun j hj=>?_
 have hji:j=i:=by simpa using hj
 subst hji;unfold wpOp;rw[gh hi];dsimp only;rw[if_pos hw];exact .inl h
theorem M8(i:Nat){oi:aj}{r:List aj}{fuel:Nat}{listed:Array Bool}{a:Act}{w:ah}(hi:l.drop i=oi::r)
  (hr:aa md l.toArray listed=[i]) (hw:af oi (aq l.toArray a.tmps)=true)
  (f:FuncId) (args:Array au) (hx:(aB a.eval oi).run P w=.ok (.enter f args) w)
  (h:Calls P f args w (fun
   |.returned v,w'=>S w'∧ag P md l.toArray Q S fuel (listed.setIfInBounds i true) (a.put oi.dst v) w'
   |.panicked c,w'=>Q (.panic c) a w'
   |.outgrown,_=>False)):ag P md l.toArray Q S (fuel+1) listed a w:=by
 refine Aw i hi hr hw ?_;unfold aI;rw[hx,Oper.upon_enter];refine Calls.mono h fun e w' he=>?_
 cases e with
 |returned v=>exact he
 |panicked c=>exact he
 |outgrown=>exact(he:False).elim
theorem Q3(i:Nat){oi:aj}{r:List aj}{fuel:Nat}{listed:Array Bool}{a:Act}{w:ah}(hi:l.drop i=oi::r)
  (hr:aa md l.toArray listed=[i]) (hw:af oi (aq l.toArray a.tmps)=true)
  (ty:aM) (x y:aR) (ho:oi.op=.store ty x y)
  (b o:Nat) (cells:Array au) (hx:a.eval x=.pointer (some ⟨b,o,none⟩)) (hy:a.eval y=.agg cells)
  (ht:w.there b o cells.size) (hn:(P.info? ty).map (·.size)=some cells.size) (h1:cells.all (·.oneCell')=true)
  (hS:S (w.setCells b o cells.toList)) (h:ag P md l.toArray Q S fuel (listed.setIfInBounds i true) (a.put oi.dst aJ) (w.setCells b o cells.toList)):ag P md l.toArray Q S (fuel+1) listed a w:=
 Aw i hi hr hw (wp_store_mid ty x y ho b o cells hx hy ht hn h1 ⟨hS,h⟩)
theorem aeZ(i:Nat){oi:aj}{r:List aj}{fuel:Nat}{listed:Array Bool}{a:Act}{w:ah}(hi:l.drop i=oi::r)
  (hr:aa md l.toArray listed=[i]) (hw:af oi (aq l.toArray a.tmps)=true) (w':ah)
  (hx:(aB a.eval oi).run P w=.ok .skip w') (hS:S w') (h:ag P md l.toArray Q S fuel (listed.setIfInBounds i true) (a.put oi.dst aJ) w'):ag P md l.toArray Q S (fuel+1) listed a w:=by
 refine Aw i hi hr hw ?_;unfold aI;rw[hx,Oper.upon_skip];exact⟨hS,h⟩
theorem sB(i:Nat){oi:aj}{r:List aj}{fuel:Nat}{listed:Array Bool}{a:Act}{w:ah}(hi:l.drop i=oi::r)
  (hr:aa md l.toArray listed=[i]) (hw:af oi (aq l.toArray a.tmps)=true) (v:au) (w':ah)
  (hx:(aB a.eval oi).run P w=.ok (.value v) w') (hS:S w') (h:ag P md l.toArray Q S fuel (listed.setIfInBounds i true) (a.put oi.dst v) w'):ag P md l.toArray Q S (fuel+1) listed a w:=by
 refine Aw i hi hr hw ?_;unfold aI;rw[hx,Oper.upon_value];exact⟨hS,h⟩
theorem cR:(∀(a:Act) (d:Tmp) (v:au),a.put (some d) v={a with tmps:=a.tmps.setIfInBounds d v})∧(∀(a:Act) (v:au),a.put none v=a)∧(∀(l:List au) (i:Nat) (v:au),l.toArray.setIfInBounds i v=(l.set i v).toArray)∧(∀(x:au) (l:List au) (v:au),(x::l).set 0 v=v::l)∧(∀(x:au) (l:List au) (i:Nat) (v:au),(x::l).set (i+1) v=x::l.set i v):=
 ⟨fun _ _ _=>rfl,fun _ _=>rfl,fun l i v=>List.setIfInBounds_toArray ..,fun _ _ _=>rfl,fun _ _ _ _=>rfl⟩
theorem tI(i:Nat){oi:aj}{r:List aj}{v:au}{fuel:Nat}{listed:Array Bool}{a:Act}{w:ah}(hi:l.drop i=oi::r)(hS:S w)
  (h:ag P md l.toArray Q S fuel (listed.setIfInBounds i true) (a.put oi.dst v) w)
  (hs:an l.toArray=true:=by kernel_rfl) (hf:ay md l.toArray listed i=true:=by kernel_rfl) (hr:(aa md l.toArray listed).contains i=true:=by kernel_rfl)
  (hw:af oi (aq l.toArray a.tmps)=true:=by kernel_rfl) (hy:∀w',S w'→(aB a.eval oi).run P w'=.ok (.value v) w':=by intro w' hS';go_simp<;>rfl)
  (hQ:∀c a w,Q (.panic c) (a.put oi.dst v) w→Q (.panic c) a w:=by exact fun _ _ _ h=>h):ag P md l.toArray Q S (fuel+1) listed a w:=
 jd i hi hs hf hr hw hS hy hQ h
theorem tJ(i:Nat){oi:aj}{r:List aj}{v:au}{fuel:Nat}{listed:Array Bool}{a:Act}{w:ah}{C:ah→Prop}(hi:l.drop i=oi::r)(hS:S w)(hC:∀w',S w'→C w')
  (h:ag P md l.toArray Q S fuel (listed.setIfInBounds i true) (a.put oi.dst v) w)
  (hs:an l.toArray=true:=by kernel_rfl) (hf:ay md l.toArray listed i=true:=by kernel_rfl) (hr:(aa md l.toArray listed).contains i=true:=by kernel_rfl)
  (hw:af oi (aq l.toArray a.tmps)=true:=by kernel_rfl) (hy:∀w',S w'→C w'→(aB a.eval oi).run P w'=.ok (.value v) w':=by intro w' hS' this;go_simp<;>rfl)
  (hQ:∀c a w,Q (.panic c) (a.put oi.dst v) w→Q (.panic c) a w:=by exact fun _ _ _ h=>h):ag P md l.toArray Q S (fuel+1) listed a w:=
 jd i hi hs hf hr hw hS (fun w' h=>hy w' h (hC w' h)) hQ h
theorem tL(i:Nat){oi:aj}{r:List aj}{fuel:Nat}{listed:Array Bool}{a:Act}{w:ah}(hi:l.drop i=oi::r)(hS:S w)(ty:aM)(x:aR)
  (b o:Nat) (cs:List au) {d:TypeDesc} (hc:∀w',S w'→w'.rangeAt b o cs) (hu:P.underlying ty=some d) (hn:(P.info? ty).map (·.size)=some cs.length)
  (h:ag P md l.toArray Q S fuel (listed.setIfInBounds i true) (a.put oi.dst (.agg cs.toArray)) w) (ho:oi.op=.load ty x:=by rfl) (hx:a.eval x=.pointer (some ⟨b,o,none⟩):=by rfl) (hd:d.isRow=true:=by rfl)
  (hs:an l.toArray=true:=by kernel_rfl) (hf:ay md l.toArray listed i=true:=by kernel_rfl) (hr:(aa md l.toArray listed).contains i=true:=by kernel_rfl)
  (hw:af oi (aq l.toArray a.tmps)=true:=by kernel_rfl) (hQ:∀c a w,Q (.panic c) (a.put oi.dst (.agg cs.toArray)) w→Q (.panic c) a w:=by exact fun _ _ _ h=>h):ag P md l.toArray Q S (fuel+1) listed a w:=
 CV i hi hs hf hr hw hS ty x ho b o hx cs d hc hu hd hn hQ h
theorem tN(i:Nat){oi:aj}{r:List aj}{fuel:Nat}{listed:Array Bool}{a:Act}{w:ah}(hi:l.drop i=oi::r)(hS:S w)
  (h:ag P md l.toArray Q S fuel (listed.setIfInBounds i true) (a.put oi.dst aJ) w)
  (hs:an l.toArray=true:=by kernel_rfl) (hf:ay md l.toArray listed i=true:=by kernel_rfl) (hr:(aa md l.toArray listed).contains i=true:=by kernel_rfl)
  (hw:af oi (aq l.toArray a.tmps)=false:=by kernel_rfl) (hQ:∀c a w,Q (.panic c) (a.put oi.dst aJ) w→Q (.panic c) a w:=by exact fun _ _ _ h=>h):ag P md l.toArray Q S (fuel+1) listed a w:=
 QZ i hi hs hf hr hw hS hQ h
theorem cI(i:Nat){oi:aj}{r:List aj}{fuel:Nat}{listed:Array Bool}{a:Act}{w:ah}(hi:l.drop i=oi::r){f:FuncId}{args:Array au}
  (h:Calls P f args w (fun
   |.returned v,w'=>S w'∧ag P md l.toArray Q S fuel (listed.setIfInBounds i true) (a.put oi.dst v) w'
   |.panicked c,w'=>Q (.panic c) a w'
   |.outgrown,_=>False))
  (hr:aa md l.toArray listed=[i]:=by kernel_rfl) (hw:af oi (aq l.toArray a.tmps)=true:=by rfl)
  (hx:(aB a.eval oi).run P w=.ok (.enter f args) w:=by go_simp<;>first|rfl|exact⟨rfl,rfl⟩):ag P md l.toArray Q S (fuel+1) listed a w:=
 M8 i hi hr hw f args hx h
theorem sI(i:Nat){oi:aj}{r:List aj}{fuel:Nat}{listed:Array Bool}{a:Act}{w:ah}(hi:l.drop i=oi::r)(ty:aM)(x y:aR)(b o:Nat)(cells:Array au)
  (ht:w.there b o cells.size) (hn:(P.info? ty).map (·.size)=some cells.size) (h1:cells.all (·.oneCell')=true)
  (hS:S (w.setCells b o cells.toList)) (h:ag P md l.toArray Q S fuel (listed.setIfInBounds i true) (a.put oi.dst aJ) (w.setCells b o cells.toList))
  (ho:oi.op=.store ty x y:=by rfl) (hx:a.eval x=.pointer (some ⟨b,o,none⟩):=by rfl) (hy:a.eval y=.agg cells:=by rfl)
  (hr:aa md l.toArray listed=[i]:=by kernel_rfl) (hw:af oi (aq l.toArray a.tmps)=true:=by rfl):ag P md l.toArray Q S (fuel+1) listed a w:=
 Q3 i hi hr hw ty x y ho b o cells hx hy ht hn h1 hS h
theorem gI(i:Nat){oi:aj}{r:List aj}{fuel:Nat}{listed:Array Bool}{a:Act}{w:ah}(hi:l.drop i=oi::r)(v:au)(w':ah)(hS:S w')
  (h:ag P md l.toArray Q S fuel (listed.setIfInBounds i true) (a.put oi.dst v) w')
  (hr:aa md l.toArray listed=[i]:=by kernel_rfl) (hw:af oi (aq l.toArray a.tmps)=true:=by rfl)
  (hx:(aB a.eval oi).run P w=.ok (.value v) w':=by go_simp<;>first|rfl|exact⟨rfl,rfl⟩):ag P md l.toArray Q S (fuel+1) listed a w:=
 sB i hi hr hw v w' hx hS h
theorem NC{S':ah→Prop}(hS:∀w,S' w→S w):∀(fuel:Nat) (listed:Array Bool) (a:Act) (w:ah),ag P md l.toArray Q S' fuel listed a w→ag P md l.toArray Q S fuel listed a w
 |0,_,_,_,h=>h
 |fuel+1,listed,a,w,h=>⟨h.1,fun i hi=>wpOp_mono (fun a' w' h'=>⟨hS w' h'.1,NC hS fuel _ a' w' h'.2⟩) (h.2 i hi)⟩
theorem rT{id:Nat}{a:Act}{w:ah}(h:∀wd,cE w wd→ag P .any l.toArray Q (fun _=>True) l.toArray.size (aD l.toArray.size false) a wd)(hm:P.follows .mixedOrders=true:=by kernel_rfl):(aH id l.toArray true).wp P Q a w:=
 aF (S:=fun _=>True) hm trivial (fun _=>h _ (aO _ w).drew)
theorem rB{id:Nat}{a:Act}{w:ah}(h:∀wd,cE w wd→ag P .any l.toArray Q (fun w'=>cE w w') l.toArray.size (aD l.toArray.size false) a wd)(hm:P.follows .mixedOrders=true:=by kernel_rfl):(aH id l.toArray true).wp P Q a w:=
 aF (S:=fun w'=>cE w w') hm (aO _ w).drew (fun hS=>h _ hS)
theorem rC{id:Nat}{a:Act}{w w1:ah}(hb:cE w1 w)(h:∀wd,cE w1 wd→cE w wd→ag P .any l.toArray Q (fun w'=>cE w1 w') l.toArray.size (aD l.toArray.size false) a wd)(hm:P.follows .mixedOrders=true:=by kernel_rfl):(aH id l.toArray true).wp P Q a w:=
 aF (S:=fun w'=>cE w1 w') hm hb.drew (fun hS=>h _ hS (aO _ w).drew)
theorem jR(i j:Nat){oi oj:aj}{r r':List aj}{fuel:Nat}{listed:Array Bool}{a:Act}{w:ah}(hi:l.drop i=oi::r)(hj:l.drop j=oj::r')
  (hr:aa md l.toArray listed=[i,j]) (hwi:af oi (aq l.toArray a.tmps)=true) (hwj:af oj (aq l.toArray a.tmps)=true)
  (f:FuncId) (args:Array au) (hx:(aB a.eval oi).run P w=.ok (.enter f args) w) (v:au) (w':ah) (hy:(aB a.eval oj).run P w=.ok (.value v) w')
  (h:Calls P f args w (fun
   |.returned v,w'=>S w'∧ag P md l.toArray Q S fuel (listed.setIfInBounds i true) (a.put oi.dst v) w'
   |.panicked c,w'=>Q (.panic c) a w'
   |.outgrown,_=>False))
  (hS:S w') (h2:ag P md l.toArray Q S fuel (listed.setIfInBounds j true) (a.put oj.dst v) w'):ag P md l.toArray Q S (fuel+1) listed a w:=by
 refine wpAnyH_all hr cM fun k hk=>?_
 rcases(show k=i∨k=j by simpa using hk) with rfl|rfl
 ·unfold wpOp
  rw[gh hi];dsimp only;rw[if_pos hwi];refine .inl ?_;unfold aI;rw[hx,Oper.upon_enter];refine Calls.mono h fun e w' he=>?_
  cases e with
  |returned v=>exact he
  |panicked c=>exact he
  |outgrown=>exact(he:False).elim
 unfold wpOp;rw[gh hj];dsimp only;rw[if_pos hwj];refine .inl ?_;unfold aI;rw[hy,Oper.upon_value];exact⟨hS,h2⟩
end
theorem dJ{w:ah}{B:Nat}{cs:List au}{t:aM}{fr:Nat×Nat}(h:w.heap[B]?=some (.cells cs.toArray t fr)):w.rangeAt B 0 cs:=fun j u hu=>by
 rw[Nat.zero_add,cell_of_row _ _ j _ t fr h];simpa using hu
theorem cells_from{B:Nat}{t:aM}{fr:Nat×Nat}:∀(vs:List au) (o:Nat) (w:ah) (cs:List au),w.heap[B]?=some (.cells cs.toArray t fr)→o+vs.length=cs.length→(w.setCells B o vs).heap[B]?=some (.cells (cs.take o++vs).toArray t fr)
 |[],o,w,cs,h,hl=>by
  rw[List.append_nil,List.take_of_length_le (by simp at hl;omega)];exact h
 |v::r,o,w,cs,h,hl=>by
  have h1:(w.setCell ⟨B,o,none⟩ v).heap[B]?=some (.cells (cs.set o v).toArray t fr):=by
   simp[World.setCell,Array.getElem?_modify,h]
  have h2:=cells_from r (o+1) (w.setCell ⟨B,o,none⟩ v) (cs.set o v) h1 (by simp at hl⊢;omega);have ho:o<cs.length:=by simp at hl;omega
  have h3:(cs.set o v).take (o+1)=cs.take o++[v]:=by
   rw[List.take_add_one,List.take_set_of_le (Nat.le_refl o)];simp[ho]
  rw[h3,List.append_assoc] at h2;exact h2
theorem gq{w:ah}{B:Nat}{cs:Array au}{t:aM}{fr:Nat×Nat}(h:w.heap[B]?=some (.cells cs t fr)){vs:List au}(hl:vs.length=cs.size):(w.setCells B 0 vs).heap[B]?=some (.cells vs.toArray t fr):=by
 have:=cells_from (B:=B) (t:=t) (fr:=fr) vs 0 w cs.toList (by simpa using h) (by simpa using hl);simpa using this
end
section
open Go.RowKit
section
variable{F:Fence}{n:Nat}{P:Program}{ops:Array Oper}{Q:Exit→Act→World→Prop}{md:Region.Mode}{S:World→Prop}{c:Nat}
def ja(P:Program)(ops:Array aj)(S:ah→Prop)(o:aj)(v:au)(a:Act):Prop:=YieldsIf P ops S o v a∧∀w,o.about P w a.eval=none
theorem Aj{ro:Option Nat}{o:aj}(h:ro=none∨∀c,o.op≠.defer c)(ρ:aR→au):Oper.semAt ro ρ o=aB ρ o:=by
 rcases h with rfl|h
 ·rfl
 exact Oper.semAt_eq _ _ _ h
def vC(l:List aj):Bool:=l.all fun o=>match o.op with|.defer _=>false|_=>true
theorem qb{l:List aj}(h:vC l=true):∀(j:Nat) (o:aj) c,l.toArray[j]?=some o→o.op≠.defer c:=fun j o c hj e=>by
 have hm:o∈l:=List.mem_of_getElem? (by simpa using hj);have:=List.all_eq_true.1 h o hm;rw[e] at this;cases this
theorem ja.op{i:Nat}{o:aj}{v:au}{a:Act}(hro:F.round=none∨∀c,o.op≠.defer c)(hi:ops[i]?=some o)(hy:ja P ops S o v a)
  {K:Act→ah→Prop} {w:ah} (hS:S w) (h:K (a.put o.dst v) w):aL F n P ops Q i K a w:=by
 unfold Go.wpOpIn;simp only[hi];have hab:∀f,o.about P w a.eval=some f→F.fn f:=fun f hf=>by rw[hy.2 w] at hf;cases hf
 rcases hy.1 with ⟨hw,hv⟩|⟨hw,rfl⟩
 ·simp only[hw,if_true,aK,Aj hro,hv w hS,aN]
  exact⟨hab,h⟩
 simp only[hw,Bool.false_eq_true,if_false];exact⟨hab,h⟩
theorem ja.same{o:aj}{v:au}{a a':Act}(hy:ja P ops S o v a)(he:aB a'.eval o=aB a.eval o)
  (hw:af o (aq ops a'.tmps)=af o (aq ops a.tmps)) (hb:∀w,o.about P w a'.eval=o.about P w a.eval):ja P ops S o v a':=
 ⟨hy.1.of_same he hw,fun w=>by rw[hb w];exact hy.2 w⟩
theorem yg{j:Nat}{oi oj:aj}{v:au}(hro:F.round=none∨∀c,oj.op≠.defer c)(hj:ops[j]?=some oj)(hap:oi.apart ops oj=true)
  (hsi:∀cs b,oi.op≠.select cs b) (hsj:∀cs b,oj.op≠.select cs b)
  (hQ:∀c a w,Q (.panic c) (a.put oi.dst v) w→Q (.panic c) a w) {K:Act→ah→Prop} {a:Act} {w:ah}
  (hy:ja P ops S oi v a) (h:aL F n P ops Q j K (a.put oi.dst v) w):
  aL F n P ops Q j (fun a' w'=>ja P ops S oi v a'∧K (a'.put oi.dst v) w') a w:=by
 obtain⟨h1,h2,h3⟩:=Oper.apart_spec hap;have keep:∀(a:Act),ja P ops S oi v a→∀u,ja P ops S oi v (a.put oj.dst u):=fun a hy u=>
  hy.same (execOp_put oi hsi a oj.dst u h3) (wanted_put oi a oj.dst u h3) (fun w=>about_put oi w a oj.dst u h3)
 have ac3:∀d,ja P ops S oi v {a with defers:=d::a.defers}:=fun d=>hy.same rfl rfl (fun _=>rfl)
 unfold aL at*;simp only[hj] at*;rw[wanted_put oj a oi.dst v h1,about_put oj w a oi.dst v h1] at h;split
 ·rename_i hw
  simp only[hw,if_true] at h;unfold aK at*;rw[about_put oj w a oi.dst v h1] at h;refine⟨h.1,?_⟩;have h:=h.2;rw[Aj hro,execOp_put oj hsj a oi.dst v h1] at h;rw[Aj hro];generalize (aB a.eval oj).run P w=r at*;cases r with
  |ok x w'=>
   cases x<;>simp only[aN] at h⊢
   case value u=>exact⟨keep a hy u,by rw[←aA a v u h2];exact h⟩
   case skip=>exact⟨keep a hy _,by rw[←aA a v aJ h2];exact h⟩
   case defer d=>
    refine⟨keep _ (ac3 d) _,?_⟩;rw[←aA _ v aJ h2,←Act.put_defers];exact h
   case enter f args=>
    refine⟨h.1,CallsIn.mono h.2 fun e w'' he=>?_⟩;cases e with
    |returned u=>exact⟨keep a hy u,by rw[←aA a v u h2];exact he⟩
    |panicked c=>exact hQ _ _ _ he
    |outgrown=>exact he
   case row row args=>exact⟨h.1,RowsIn.mono h.2 fun u w'' he=>⟨keep a hy u,by rw[←aA a v u h2];exact he⟩⟩
   case round l f tmps assign body=>
    refine⟨h.1,RoundIn.mono h.2 fun e w'' he=>?_⟩;cases e with
    |returned u=>exact⟨keep a hy u,by rw[←aA a v u h2];exact he⟩
    |panicked c=>exact hQ _ _ _ he
    |outgrown=>exact he
  |halt x w'=>
  cases x<;>simp only[aN] at h⊢
  case panic u=>exact hQ _ _ _ h
 rename_i hw
 simp only[hw] at h;exact⟨h.1,keep a hy _,by rw[←aA a v aJ h2];exact h.2⟩
def rV(md:aG)(ops:Array aj)(listed:Array Bool):Prop:=∀(j:Nat) o,ops[j]?=some o→listed.getD j true=true→∀e∈o.after,aC md e=true→listed.getD e.on true=true
theorem Me{A:Array Bool}{j k:Nat}(h:A.getD k true=true):(A.setIfInBounds j true).getD k true=true:=by
 by_cases e:j=k
 ·subst e
  by_cases hj:j<A.size<;>simp[aP,hj]
 rw[aE true e];exact h
theorem Y1{A:Array Bool}{k:Nat}(h:A.getD k false=true):A.getD k true=true:=by
 by_cases hk:k<A.size
 ·simpa [aP,hk] using h
 simp[aP,hk]
theorem rV.set{listed:Array Bool}(h:rV md ops listed){j:Nat}(hj:j∈aa md ops listed):rV md ops (listed.setIfInBounds j true):=fun k o hk hl e he hb=>by
 by_cases e1:j=k
 ·subst e1
  obtain⟨_,oj,Qr,hall⟩:=aQ.1 hj;rw[hk] at Qr;cases Qr;exact Me (Y1 (hall e he hb))
 ·rw[aE true e1] at hl
  exact Me (h k o hk hl e he hb)
def waits(md:aG)(ops:Array aj):Nat→Nat→Nat→Bool
 |0,_,_=>false
 |f+1,j,i=>match ops[j]? with
  |none=>false
  |some o=>o.after.any fun e=>aC md e&&(e.on==i||waits md ops f e.on i)
theorem rV.waits{listed:Array Bool}(h:rV md ops listed){i:Nat}:∀(f j:Nat),waits md ops f j i=true→listed.getD j true=true→listed.getD i true=true
 |0,_,h0,_=>by cases h0
 |f+1,j,h0,hl=>by
  unfold Go.Proofs.YtdpaejbaoefdjaaGreatDoor.waits at h0;cases ho:ops[j]? with
  |none=>rw[ho] at h0;cases h0
  |some o=>
   rw[ho] at h0;obtain⟨e,he,h1⟩:=Array.any_eq_true'.1 h0;simp only[Bool.and_eq_true,Bool.or_eq_true,beq_iff_eq] at h1;have h2:=h j o ho hl e he h1.1;rcases h1.2 with h3|h3
   ·rw[←h3];exact h2
   ·exact rV.waits h f e.on h3 h2
def zO(md:aG)(ops:Array aj)(listed:Array Bool):Bool:=(List.range ops.size).all fun j=>match ops[j]? with
 |none=>true
 |some o=>!listed.getD j true||o.after.all fun e=>!aC md e||listed.getD e.on true
theorem DU{listed:Array Bool}(h:zO md ops listed=true):rV md ops listed:=fun j o ho hl e he hb=>by
 have hj:=(Array.getElem?_eq_some_iff.1 ho).1;have h1:=List.all_eq_true.1 h j (List.mem_range.2 hj);rw[ho] at h1;dsimp only at h1;rw[hl] at h1;simp only[Bool.not_true,Bool.false_or] at h1;have h2:=Array.all_eq_true'.1 h1 e he;rw[hb] at h2;simpa using h2
def eY(F:Fence)(n:Nat)(P:Program)(md:aG)(ops:Array aj)(Q:Exit→Act→ah→Prop)(S:ah→Prop)(c:Nat):Nat→Array Bool→Act→ah→Prop
 |0,listed,a,w=>aa md ops listed=[]∧Q .normal a w
 |fuel+1,listed,a,w=>
  (aa md ops listed=[]→Q .normal a w)∧
  ∀i∈aa md ops listed,aL F n P ops Q i (fun a' w'=>((listed.setIfInBounds i true).getD c true=false→S w')∧eY F n P md ops Q S c fuel (listed.setIfInBounds i true) a' w') a w
theorem qx:∀(fuel:Nat) (listed:Array Bool) (a:Act) (w:ah),eY F n P md ops Q S c fuel listed a w→wpAnyIn F n P md ops Q fuel listed a w
 |0,_,_,_,h=>h
 |fuel+1,_,_,_,h=>⟨h.1,fun i hi=>wpOpIn_mono (fun a' w' h'=>qx fuel _ a' w' h'.2) (h.2 i hi)⟩
theorem sS{i:Nat}{oi:aj}{v:au}{f:Nat}(KC:c≠i)(KB:waits md ops f c i=true)(hro:F.round=none∨∀(j:Nat) (o:aj) c,ops[j]?=some o→o.op≠.defer c)(hi:ops[i]?=some oi)(hsel:∀(j:Nat) (o:aj) cs b,ops[j]?=some o→o.op≠.select cs b)
  (hQ:∀c a w,Q (.panic c) (a.put oi.dst v) w→Q (.panic c) a w):
  ∀(fuel:Nat) (listed:Array Bool) (a:Act) (w:ah),
   (∀j oj,ops[j]?=some oj→j≠i→listed.getD j true=false→(∀e∈oj.after,aC md e=true→e.on≠i)→oi.apart ops oj=true)→
   i∈aa md ops listed→rV md ops listed→ja P ops S oi v a→S w→
   eY F n P md ops Q S c fuel (listed.setIfInBounds i true) (a.put oi.dst v) w→eY F n P md ops Q S c (fuel+1) listed a w:=by
 intro fuel
 induction fuel with
 |zero=>
  intro listed a w _ hr hcl hy hS H;refine⟨fun h=>(by rw[h] at hr;cases hr),fun j hj=>?_⟩;by_cases hji:j=i
  ·subst hji;exact hy.op (hro.imp_right fun h c=>h _ _ c hi) hi hS ⟨fun _=>hS,H⟩
  have:=ready_mono hj hji;rw[H.1] at this;cases this
 |succ fuel ih=>
  intro listed a w hfree hr hcl hy hS H;refine⟨fun h=>(by rw[h] at hr;cases hr),fun j hj=>?_⟩;by_cases hji:j=i
  ·subst hji;exact hy.op (hro.imp_right fun h c=>h _ _ c hi) hi hS ⟨fun _=>hS,H⟩
  have h1:=H.2 j (ready_mono hj hji);obtain⟨SF,oj,Qr,hall⟩:=aQ.1 hj;have hnot:∀e∈oj.after,aC md e=true→e.on≠i:=fun e he hb heq=>by
   have h1:=hall e he hb;have h0:=(aQ.1 hr).1;rw[heq] at h1;rcases Nat.lt_or_ge i listed.size with h'|h'
   ·simp[h'] at h0 h1;rw[h0] at h1;cases h1
   simp[Array.getElem?_eq_none h'] at h1
  have h2:=yg (hro.imp_right fun h c=>h _ _ c Qr) Qr (hfree j oj Qr hji SF hnot) (fun cs b=>hsel i oi cs b hi) (fun cs b=>hsel j oj cs b Qr) hQ hy h1;have Kz:∀k ok,ops[k]?=some ok→k≠i→(listed.setIfInBounds j true).getD k true=false→
    (∀e∈ok.after,aC md e=true→e.on≠i)→oi.apart ops ok=true:=fun k ok hk hki hun hno=>by
   refine hfree k ok hk hki ?_ hno;by_cases hjk:j=k
   ·subst hjk;exact SF
   ·rw[aE true hjk] at hun;exact hun
  have hun:(listed.setIfInBounds j true).getD i true=false:=by rw[aE true hji];exact(aQ.1 hr).1
  refine wpOpIn_mono (fun a' w' h3=>?_) h2;have hcm:(listed.setIfInBounds i true).setIfInBounds j true=(listed.setIfInBounds j true).setIfInBounds i true:=Array.setIfInBounds_comm _ _ (Ne.symm hji);have h4:=h3.2.2;rw[hcm] at h4;have hSw:S w':=by
   refine h3.2.1 ?_;rw[hcm,aE true (Ne.symm KC)];cases hc:(listed.setIfInBounds j true).getD c true with
   |false=>rfl
   |true=>
   have:=(hcl.set hj).waits f c KB hc;rw[hun] at this;cases this
  exact⟨fun _=>hSw,ih (listed.setIfInBounds j true) a' w' Kz (ready_mono hr (Ne.symm hji)) (hcl.set hj) h3.1 hSw h4⟩
end
section
variable{F:Fence}{n:Nat}{P:Program}{l:List Oper}{Q:Exit→Act→World→Prop}{md:Region.Mode}{S:World→Prop}{c:Nat}
theorem fI(i:Nat){oi:aj}{r:List aj}{v:au}{fuel:Nat}{listed:Array Bool}{a:Act}{w:ah}(hi:l.drop i=oi::r)(hS:S w)(hy:∀w',S w'→(aB a.eval oi).run P w'=.ok (.value v) w')
  (h:eY F n P md l.toArray Q S c fuel (listed.setIfInBounds i true) (a.put oi.dst v) w)
  (hro:F.round=none∨vC l=true:=by first|exact .inl rfl|exact .inr cJ) (hab:∀w,oi.about P w a.eval=none:=by intro w;rfl)
  (hs:an l.toArray=true:=by kernel_rfl) (hf:ay md l.toArray listed i=true:=by kernel_rfl) (hr:(aa md l.toArray listed).contains i=true:=by kernel_rfl)
  (hw:af oi (aq l.toArray a.tmps)=true:=by kernel_rfl) (KC:c≠i:=by decide) (KB:waits md l.toArray 20 c i=true:=by kernel_rfl) (hcl:zO md l.toArray listed=true:=by kernel_rfl)
  (hQ:∀c a w,Q (.panic c) (a.put oi.dst v) w→Q (.panic c) a w:=by exact fun _ _ _ h=>h):eY F n P md l.toArray Q S c (fuel+1) listed a w:=
 sS KC KB (hro.imp_right qb) (gh hi) (Region.noSelect_spec hs) hQ fuel listed a w (Region.free_spec (gh hi) hf) (by simpa using hr) (DU hcl) ⟨.inl ⟨hw,hy⟩,hab⟩ hS h
theorem fJ(i:Nat){oi:aj}{r:List aj}{v:au}{fuel:Nat}{listed:Array Bool}{a:Act}{w:ah}(hS:S w)
  (h:eY F n P md l.toArray Q S c fuel (listed.setIfInBounds i true) (a.put oi.dst v) w) (hi:l.drop i=oi::r:=by rfl) (hy:∀w',S w'→(aB a.eval oi).run P w'=.ok (.value v) w':=by intro w' hS';go_simp<;>rfl)
  (hro:F.round=none∨vC l=true:=by first|exact .inl rfl|exact .inr cJ) (hab:∀w,oi.about P w a.eval=none:=by intro w;rfl)
  (hs:an l.toArray=true:=by kernel_rfl) (hf:ay md l.toArray listed i=true:=by kernel_rfl) (hr:(aa md l.toArray listed).contains i=true:=by kernel_rfl)
  (hw:af oi (aq l.toArray a.tmps)=true:=by kernel_rfl) (KC:c≠i:=by decide) (KB:waits md l.toArray 20 c i=true:=by kernel_rfl) (hcl:zO md l.toArray listed=true:=by kernel_rfl)
  (hQ:∀c a w,Q (.panic c) (a.put oi.dst v) w→Q (.panic c) a w:=by exact fun _ _ _ h=>h):eY F n P md l.toArray Q S c (fuel+1) listed a w:=
 fI i hi hS hy h hro hab hs hf hr hw KC KB hcl hQ
theorem fC(i:Nat){oi:aj}{r:List aj}{fuel:Nat}{listed:Array Bool}{a:Act}{w:ah}(hi:l.drop i=oi::r)
  (h:∀K':Act→ah→Prop,(∀a w,eY F n P md l.toArray Q S c fuel (listed.setIfInBounds i true) a w→K' a w)→aK F n P oi a w K' Q)
  (hr:aa md l.toArray listed=[i]:=by kernel_rfl) (hw:af oi (aq l.toArray a.tmps)=true:=by kernel_rfl) (hc:(listed.setIfInBounds i true).getD c true=true:=by kernel_rfl):eY F n P md l.toArray Q S c (fuel+1) listed a w:=by
 refine⟨fun h0=>absurd (hr▸h0) cM,fun j hj=>?_⟩;rw[hr] at hj;have hji:j=i:=by simpa using hj
 subst hji;unfold aL;rw[gh hi];dsimp only;rw[if_pos hw];exact h _ fun _ _ h2=>⟨fun e=>(by rw[hc] at e;cases e),h2⟩
theorem fK(i:Nat){oi:aj}{r:List aj}{fuel:Nat}{listed:Array Bool}{a:Act}{w:ah}(hi:l.drop i=oi::r)
  (h:∀K':Act→ah→Prop,(∀a w,S w→eY F n P md l.toArray Q S c fuel (listed.setIfInBounds i true) a w→K' a w)→aK F n P oi a w K' Q)
  (hr:aa md l.toArray listed=[i]:=by kernel_rfl) (hw:af oi (aq l.toArray a.tmps)=true:=by kernel_rfl):eY F n P md l.toArray Q S c (fuel+1) listed a w:=by
 refine⟨fun h0=>absurd (hr▸h0) cM,fun j hj=>?_⟩;rw[hr] at hj;have hji:j=i:=by simpa using hj
 subst hji;unfold aL;rw[gh hi];dsimp only;rw[if_pos hw];exact h _ fun _ _ h1 h2=>⟨fun _=>h1,h2⟩
theorem fD{listed:Array Bool}{a:Act}{w:ah}(h:Q .normal a w)(hr:aa md l.toArray listed=[]:=by kernel_rfl):∀fuel,eY F n P md l.toArray Q S c fuel listed a w
 |0=>⟨hr,h⟩
 |_+1=>⟨fun _=>h,by rw[hr];simp⟩
theorem fB{id:Nat}{a:Act}{w:ah}(h:eY F n P .any l.toArray Q S c l.toArray.size (aD l.toArray.size false) a w.drew)(hm:P.follows .mixedOrders=true:=by kernel_rfl):(aH id l.toArray true).wpIn F n P Q a w:=
 wpIn_region_any hm (qx _ _ _ _ h)
end
end
