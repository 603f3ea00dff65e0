/- Part 40. -/
import Derived.Test.YtdpaejbaoefdjaaGreatDoorQ39
open Go.World renaming putObj_heap_other → aa
open List renaming pairwise_cons → af
open Nat renaming le_refl → ag
open Go.RowKit.Below renaming refl → ah
open List.Perm renaming refl → aj
open Array renaming getElem?_eq_some_iff → an
open Go renaming Boxed → aq,callsIn_wide → au
open Go.Boxed renaming new → ay
namespace Go.Proofs.YtdpaejbaoefdjaaGreatDoor
open Go.Proofs.Tryz
set_option maxRecDepth 100000
set_option maxHeartbeats 64000000
set_option linter.unusedVariables false
set_option linter.unusedSimpArgs false
def LF(x:cP):List cP→List cP
 |[]=>[x]
 |y::L=>if x≤y then x::y::L else y::LF x L
def G4:List cP→List cP
 |[]=>[]
 |x::L=>LF x (G4 L)
theorem yj(x:cP):∀L:List cP,(LF x L).Perm (x::L)
 |[]=>aj _
 |y::L=>by
  unfold LF;split
  ·exact aj _
  ·exact((yj x L).cons y).trans (List.Perm.swap x y L)
theorem AN:∀L:List cP,(G4 L).Perm L
 |[]=>aj _
 |x::L=>(yj x (G4 L)).trans ((AN L).cons x)
theorem zi(x:cP):∀L:List cP,L.Pairwise (fun x y=>x≤y)→(LF x L).Pairwise (fun x y=>x≤y)
 |[],_=>by simp[LF]
 |y::L,h=>by
  unfold LF;rw[af] at h;split
  ·rename_i hxy
   rw[af,af];exact⟨fun z hz=>by
    rcases List.mem_cons.1 hz with rfl|hz
    ·exact hxy
    ·exact List.le_trans hxy (h.1 z hz),h⟩
  ·rename_i hxy
   rw[af];refine⟨fun z hz=>?_,zi x L h.2⟩;rcases List.mem_cons.1 ((yj x L).mem_iff.1 hz) with rfl|hz
   ·exact(List.le_total _ _).resolve_left hxy
   ·exact h.1 z hz
theorem vG:∀L:List cP,(G4 L).Pairwise (fun x y=>x≤y)
 |[]=>List.Pairwise.nil
 |x::L=>zi x _ (vG L)
section
variable(root:cP)(at_:Int)(who:dW)
def Hp:List (cP×Nd)→List eC→Int
 |M,[]=>0
 |M,o::l=>if Ij root M who o=0 then Hp (FK root M at_ who o) l else Ij root M who o
def Nu:List (cP×Nd)→List eC→List (cP×Nd)
 |M,[]=>M
 |M,o::l=>if Ij root M who o=0 then Nu (FK root M at_ who o) l else M
def Nt:List (cP×Nd)→List eC→List gh
 |M,[]=>[]
 |M,o::l=>if Ij root M who o=0 then (if Ij root M who o≠0 then [] else V4 M at_ who o)++Nt (FK root M at_ who o) l else []
theorem Ns:∀(l:List eC) {M:List (cP×Nd)},kS M→nZ root at_ who M l=Hp root at_ who M l∧runM root at_ who M l=Nu root at_ who M l∧lU root at_ who M l=Nt root at_ who M l
 |[],M,_=>⟨rfl,rfl,rfl⟩
 |o::l,M,h=>by
  obtain⟨h1,h2,h3⟩:=Ns l (h.op (root:=root) (at_:=at_) (who:=who) o);unfold nZ runM lU Hp Nu Nt jA;rw[h1,h2,h3,Tg h,aa8 h];exact⟨rfl,rfl,rfl⟩
end
namespace cS
variable(m:cS)
def El(r:Nat):List cP:=G4 (((m.nodes r).map (·.1)).filter fun p=>m.gone.contains (((dF p (m.nodes r)).getD iN).num.os,((dF p (m.nodes r)).getD iN).num.on))
theorem wo(r:Nat):m.left r=m.El r:=
 tC ((qi _).filter _) (vG _) (((gH _).filter _).trans (AN _).symm)
def Fy(r:Nat):kV:=⟨⟨7,[],[],0,false,false⟩,((m.El r).take 6).map fun p=>⟨2,p,[],-1,false,false⟩⟩
def Fc(r:Nat)(o:kV)(who:dW):List gh:=if Hp (m.root r) (m.at_ r+1) who (m.nodes r) o.seq≠0 then [] else Nt (m.root r) (m.at_ r+1) who (m.nodes r) o.seq
def agQ(r:Nat)(o:kV)(who:dW):List (cP×Nd):=if Hp (m.root r) (m.at_ r+1) who (m.nodes r) o.seq≠0 then m.nodes r else Nu (m.root r) (m.at_ r+1) who (m.nodes r) o.seq
def Vr(r:Nat)(o:kV)(who:dW):cS:=if m.Fc r o who=[] then m else (m.dV r (m.at_ r+1,m.agQ r o who)).make (m.oS r (m.Fc r o who))
def Vs(r:Nat)(o:kV)(who:dW):gK:=if m.Fc r o who=[] then ko else m.item (m.oS r (m.Fc r o who))
theorem YJ{r:Nat}(h:kS (m.nodes r))(o:kV)(who:dW):m.oT r o who=m.Vr r o who∧m.Gw r o who=m.Vs r o who:=by
 obtain⟨h1,h2,h3⟩:=Ns (m.root r) (m.at_ r+1) who o.seq h;have e1:m.xl r o who=m.Fc r o who:=by
  unfold xl Fc zC Au;rw[h1,h3];simp
 unfold oT Vr Gw Vs agQ Mt Au;rw[e1,h1,h2];simp
def S0(r:Int):cS×jt:=
 if out r m.dH.length then (m,nX 60)
 else if (m.tok r.toNat).held=false then (m,nX 61)
 else if m.El r.toNat=[] then (m,nX 0)
 else (m.Vr r.toNat (m.Fy r.toNat) ⟨0,0⟩,⟨0,l5,[],m.Vs r.toNat (m.Fy r.toNat) ⟨0,0⟩⟩)
theorem SZ{N:Nat}(ok:m.Ok N)(r:Int):m.qM r=m.S0 r:=by
 unfold qM S0 tG;simp only[wo];split
 ·rfl
 rename_i ho
 obtain⟨h1,h2⟩:=m.YJ (ok.tree r.toNat (by unfold out at ho;omega)).nice (m.Fy r.toNat) ⟨0,0⟩;unfold Fy at h1 h2⊢;rw[h1,h2]
def pU(x:iS):cS×jt:=if FD x=0 then (if (ey (vR x)).kind=7 then m.S0 (ey (vR x)).dK else m.apply (ey (vR x))) else (m,nX 2)
theorem rP{N:Nat}(ok:m.Ok N)(x:iS):m.done x=m.pU x:=by
 unfold done pU;split
 ·split
  ·rename_i h
   unfold apply;rw[h];exact m.SZ ok _
  rfl
 rfl
end cS
def rpO(p:cP)(e:Bool):eC:=⟨1,p,[],0,true,e⟩
def KM(n:Nat)(p:cP)(e:Bool):iS:={gX 1 (rpO p e) 0 [] with on:=n}
def SR:iS:={gX 3 (gO 0 []) 0 [] with on:=1}
def xP:iS:=gX 7 (gO 0 []) 0 []
def rpI:iS:=gX 5 (gO 0 []) 1 [0]
def rp0:cS:=cS.new 0 1 [pR]
def rp1:cS:=(rp0.done Q4).1
def rp2:cS:=(rp1.done Q4).1
def rp3:cS:=(rp2.done rpI).1
def J0:iS:=KM 1 [47,114,47,103] true
def CE(i:Nat):iS:=KM (1+i % 2) [47,114,47,115] (i % 2==1)
def rpK(s:Nat):Nat→cS→Bool
 |0,m=>decide (m.El 0=[])&&decide ((m.tok 0).held=true)&&decide ((m.pU xP).2.e=0)&&decide ((m.pU xP).2.i.seq=0)&&decide ((((m.pU xP).1.nodes 0).filter fun x=>C6 pR pR x.1).length=s)
 |k+1,m=>decide (m.El 0≠[])&&decide ((m.tok 0).held=true)&&decide ((m.pU xP).2.e=0)&&rpK s k (m.pU xP).1
def rpE(g s:Nat)(m:cS):Bool:=decide (m.El 0=[])&&decide ((m.pU SR).2.e=0)&&rpK s ((g+5) / 6) (m.pU SR).1
def KO(g:Nat):Nat→Nat→cS→Bool
 |0,s,m=>rpE g s m
 |n+1,s,m=>rpE g s m&&decide ((m.pU (CE s)).2.e=0)&&KO g n (s+1) (m.pU (CE s)).1
def Pm(b:Nat):Nat→Nat→cS→Bool
 |0,g,m=>KO g 20 0 m
 |n+1,g,m=>(decide (g<b)||KO g 20 0 m)&&decide ((m.pU J0).2.e=0)&&Pm b n (g+1) (m.pU J0).1
set_option maxRecDepth 100000
theorem ajv:Pm 0 6 0 rp3=true:=by decide+kernel
section
set_option maxRecDepth 100000
theorem aju:Pm 7 13 0 rp3=true:=by decide+kernel
set_option maxRecDepth 100000
theorem aeo:Pm 14 20 0 rp3=true:=by decide+kernel
end
section
open Go.RowKit Go.Shelf Go.MapKept Go.ChangeMaps
attribute [local go_sem] Oper.semAt_some
def Ff(w:World)(x:Bool)(W:World):Prop:=aq W w.heap.size 4 (.bool x)∧cF w W
theorem DN(w:World)(B:Nat)(hB:w.heap.size<B){X Y:World}{x:Bool}{row:Option Nat}(h:Ff w x X)(hg:X.grownBy Y row)(hr:∀r,row=some r→B≤r∧∃o:Obj,X.heap[r]?=some o∧o.isCells=false):Ff w x Y:=by
 obtain⟨h1,h2⟩:=h;have hk:=fT hg;exact⟨hk.same h1 (fun e=>by have:=(hr _ e).1;omega),h2.grown hg h2.size (fun g e=>by have:=(hr g e).1;omega)⟩
theorem qp{P:Program}{fn:Func}{p:Tmp}{ty:TypeId}(h:fn.results=#[.cell p ty])(tmps:Array Value)(w:World)(b:Nat)(x:Value)
  (hp:tmps.getD p undef=.p b) (h1:(loadVar ty ⟨b,0,none⟩).run P w=.ok x w):(results fn tmps).run P w=.ok x w:=by
 have hp':tmps[p]?.getD undef=.p b:=by simpa using hp
 simp[results,h,hp',asAddr,h1]
section
variable{w0 w:World}{A:MA}{m:cS}{N:Nat}
theorem KA(hm:cU w0 w A m)(ok:m.Ok N)(r:Nat)(hr:r<m.dH.length):
  Calls prog 18 #[.p A.mb,.i r] w fun e w'=>e=.returned (.bool ((m.tok r).held&&decide (m.left r≠[])))∧cF w w':=by
 have HM:=cE (cD hm (cD ok hr));obtain⟨W1,zq⟩:=cG (w.alloc (.cells #[.F] 4));have de:cF w W1:=by rw[zq];exact cR (ah _ w) _
 have E1:aq W1 w.heap.size 4 (.F):=by rw[zq];exact ay w _ _
 have Dt:Hid (Calls prog 23 #[.p A.mb,.i r] W1 fun e w'=>e=.returned (.tuple #[.v ((if (m.tok r).held then (m.tok r).ep else 0:Nat):Int),.bool (m.tok r).held])∧cF W1 w'):=cE (by
  have:=uq (hm.below de) (r:Int)
  rwa [Fp ok hr] at this)
 generalize (if (m.tok r).held=true then (m.tok r).ep else 0)=ep at Dt;obtain⟨hd,tP⟩:∃b,b=(m.tok r).held:=⟨_,rfl⟩;rw[←tP] at Dt⊢;have HX:=cE (cD zq (cD de (cD E1 tP)));clear hm ok hr zq de E1 tP;cases hd with
 |false=>
  go_enter func18,ntmps18
  go_wp2_with (first|rw[←HX.out.1]|fail)
  refine Dt.out.mono ?_;rintro e W2 ⟨rfl,dz⟩;have E2:aq W2 w.heap.size 4 (.F):=(dz.block _ (lt_of_block HX.out.2.2.1)).trans HX.out.2.2.1;have Un:=HX.out.2.1.trans (dz.mono HX.out.2.1.size);have a1:=E2.cell;have a2:=E2.frozen;have HF:Hid (aq (W2.setCell ⟨w.heap.size,0,none⟩ (.F)) w.heap.size 4 (.F)∧cF w (W2.setCell ⟨w.heap.size,0,none⟩ (.F))):=cE ⟨E2.set _,Un.setCell (p:=⟨w.heap.size,0,none⟩) (ag _) _⟩;clear dz E2 Un;go_wp2
  exact bodyPost_ret (qp rfl _ _ w.heap.size (.F) rfl (sJ HF.out.1.cell)) rfl ⟨rfl,HF.out.2⟩
 |true=>
 refine(au (n:=2)).1 ?_;refine callsIn_of_wp_marks func18 rfl trivial ?_ rfl;simp only[ntmps18,List.size_toArray,List.length_cons,List.length_nil,Nat.reduceAdd,Nat.reduceSub,Array.replicate_succ,Array.replicate_zero,List.push_toArray,List.append_toArray,List.nil_append,List.cons_append];gi_wp2_with (first|rw[←HX.out.1]|fail)
 refine⟨trivial,?_⟩;refine(au.2 Dt.out).mono ?_;rintro e W2 ⟨rfl,dz⟩;have E2:aq W2 w.heap.size 4 (.F):=(dz.block _ (lt_of_block HX.out.2.2.1)).trans HX.out.2.2.1;have Un:=HX.out.2.1.trans (dz.mono HX.out.2.1.size);have H2:=cE (cD E2 Un);clear dz E2 Un;gi_wp2_with fail
 refine⟨trivial,?_⟩;refine(au.2 (Ej _ _ _)).mono ?_;rintro e w' ⟨rfl,rfl⟩;gi_wp2
 obtain⟨W0,xG⟩:∃W0,(W2.alloc (.cells #[.p A.mb] 24)).alloc (.cells #[.i r] 3)=W0:=⟨_,rfl⟩;have q2:=(ay W2 24 (.p A.mb)).alloc (.cells #[.i r] 3);have q3:=ay (W2.alloc (.cells #[.p A.mb] 24)) 3 (.i r);rw[World.size_alloc] at q3;rw[xG] at q2 q3⊢;have hs0:W0.heap.size=W2.heap.size+2:=by rw[←xG];simp
 have wL:cF W2 W0:=by rw[←xG];exact cR (cR (ah _ W2) _) _
 have hlt:=lt_of_block H2.out.1;have Yk:Ff w false W0:=⟨(wL.block _ hlt).trans H2.out.1,H2.out.2.trans (wL.mono H2.out.2.size)⟩;have iY:=cE (cD q2 (cD q3 (cD hs0 (cD wL (cD hlt Yk)))));clear xG q2 q3 hs0 wL hlt Yk;refine wpIn_rangeFunc_ownH (α:=cP) rfl cL (gf:=110) (lb:=#[.p W2.heap.size,.p (W2.heap.size+1)]) rfl trivial (enters_of func110 cK rfl)
  (encs:=fun p=>#[.s p]) (Kp:=KL w.heap.size w.heap.size) (S:=fun ys=>ys=m.left r) (Sp:=fun pre=>pre <+: m.left r) (N:=48) (w0:=W0) ?seq
  (fun h k=>h.trans k) ?kb (ah _ _) (fun _=>rfl)
  (fun pre W=>pre=[]∧Ff w false W∧W0.heap.size≤W.heap.size) (fun c pre W=>c=.ret∧pre≠[]∧Ff w true W)
  (fun s A B row hs hg hr=>⟨hs.1,DN w _ (by have:=iY.out.2.2.2.2.1;have:=iY.out.2.2.1;omega) hs.2.1 hg hr,Nat.le_trans hs.2.2 hg.size⟩)
  (fun c s A B row hs hg hr=>⟨hs.1,hs.2.1,DN w _ (by have:=iY.out.2.2.2.2.1;have:=iY.out.2.2.1;omega) hs.2.2 hg hr⟩)
  ⟨rfl,iY.out.2.2.2.2.2,ag _⟩
  (fun x a' W=>a'={tmps:=#[.p A.mb,.i r,undef,undef,.p w.heap.size,.v (ep:Int),.T,.tuple #[.v (ep:Int),.T],.p A.mb,.i r,.tuple #[.v (ep:Int),.T],.v (ep:Int),.T,.T,.F,.p A.mb,.i r,.func (.func 110) #[] #[.p W2.heap.size,.p (W2.heap.size+1)],.s x],defers:=[]})
  (fun x a' s A B row hs hg hr=>hs) ?assign ?body ?done ?stop
 case seq=>
  intro l J Jx W hW hJ hJx hY hJ0;obtain⟨q2,q3,hs0,wL,hlt,_⟩:=iY.out;have ago:=H2.out.2.trans (wL.mono H2.out.2.size);have hB:=ago.trans (hW.mono ago.size);have hws:=hW.size;exact En HM.out.1 HM.out.2.1 1 l W2.heap.size (W2.heap.size+1) w.heap.size r HM.out.2.2 J Jx hY W hJ hB ((hW.block _ cL).trans q2) ((hW.block _ cL).trans q3) cL cL cL hJ0
 case kb=>
  intro W l o o' hl ho hc hw;have hs0:=iY.out.2.2.1;have hlt:=iY.out.2.2.2.2.1;refine⟨⟨rfl,rfl,rfl,by simp[World.putObj],fun b hb=>aa cL⟩,by simp[World.putObj],fun b cs t fr _ _ e=>(aa (fun e1=>?_)).trans e⟩;subst e1;rw[e] at ho;cases ho;cases hc
 case assign=>
  rintro l pre x W K ⟨hnil,hI,BL⟩ hK;have hlt:=iY.out.2.2.2.2.1;have hs0:=iY.out.2.2.1;have OM:=cE (hK _ _ (mw (ah _ W)) (gy cL (ah _ W)) ⟨hnil,hI,BL⟩ rfl);clear hK hI;gi_wp2_with fail
  simpa using OM.out
 case body=>
  rintro l pre x a' W hl hloop ⟨rfl,hI,BL⟩ rfl hlt;have a1:=hI.1.cell;have a2:=hI.1.frozen;have hI1:aq (W.setCell ⟨w.heap.size,0,none⟩ (.T)) w.heap.size 4 (.T):=hI.1.set _;have hk:Kept (·=w.heap.size) W (W.setCell ⟨w.heap.size,0,none⟩ (.T)):=(Kept.refl (·=w.heap.size) W).setCell (p:=⟨w.heap.size,0,none⟩) rfl _;have HI:=cE (show Ff w true (W.setCell ⟨w.heap.size,0,none⟩ (.T)) from⟨hI1,hI.2.setCell (p:=⟨w.heap.size,0,none⟩) (ag _) _⟩);have HKL:=cE (show KeepsFrom W0.heap.size W (W.setCell ⟨w.heap.size,0,none⟩ (.T)) from⟨hk.size,fun k o hB ho _=>(hk.block k (an.1 ho).1 (by have:=iY.out.2.2.2.2.1;have:=iY.out.2.2.1;omega)).trans ho⟩);clear hI BL hl hloop hlt hI1 hk;gi_wp2_with fail
  exact⟨HKL.out,rfl,by simp,HI.out⟩
 case done=>
  rintro D ys W hD hys ⟨hnil,hI,BL⟩ hK;have a1:=hI.1.cell;have a2:=hI.1.frozen;have L3:w.heap.size<D:=by have:=iY.out.2.2.2.2.1;have:=iY.out.2.2.1;omega
  have hl0:m.left r=[]:=by rw[←hys,hnil]
  have HD:=cE (cD hI (cD hK (cD L3 hl0)));clear hI hK L3 hl0 BL hys hD;gi_wp2_with fail
  obtain⟨hI,hK,L3,hl0⟩:=HD.out;have Wo:(W.setCell ⟨w.heap.size,0,none⟩ (.F)).heap[D]?=some (.deferred (some [])):=by
   have hk:Kept (·=w.heap.size) W (W.setCell ⟨w.heap.size,0,none⟩ (.F)):=(Kept.refl (·=w.heap.size) W).setCell (p:=⟨w.heap.size,0,none⟩) rfl _;exact(hk.block _ (an.1 hK).1 cL).trans hK
  have hI1:aq (W.setCell ⟨w.heap.size,0,none⟩ (.F)) w.heap.size 4 (.F):=hI.1.set _;have kA:cF w (W.setCell ⟨w.heap.size,0,none⟩ (.F)):=hI.2.setCell (p:=⟨w.heap.size,0,none⟩) (ag _) _;have De:cF w ((W.setCell ⟨w.heap.size,0,none⟩ (.F)).putObj D (.deferred none)):=kA.trans (belowK_b (w:=w) (ag _) _ D _ _ cL Wo rfl rfl);have hI2:aq ((W.setCell ⟨w.heap.size,0,none⟩ (.F)).putObj D (.deferred none)) w.heap.size 4 (.F):=(aa cL).trans hI1;refine⟨by simp,.inl ⟨_,_,rfl,run_takeDeferred Wo,?_⟩⟩;refine⟨_,qp rfl _ _ w.heap.size (.F) rfl (sJ hI2.cell),?_⟩;exact⟨by rw[hl0];rfl,De⟩
 rintro D c pre W hD hpre ⟨rfl,hne,hI⟩ hK;have L3:w.heap.size<D:=by have:=iY.out.2.2.2.2.1;have:=iY.out.2.2.1;omega
 have hl0:m.left r≠[]:=fun e=>by
  rw[e] at hpre;exact hne (List.prefix_nil.1 hpre)
 have De:cF w (W.putObj D (.deferred none)):=hI.2.trans (belowK_b (w:=w) (ag _) _ D _ _ cL hK rfl rfl);have hI2:aq (W.putObj D (.deferred none)) w.heap.size 4 (.T):=(aa cL).trans hI.1;have HD:=cE (cD hI2 (cD hK (cD De hl0)));clear hI hK L3 hl0 De hI2 hpre hD;gi_wp2_with fail
 obtain⟨hI2,hK,De,hl0⟩:=HD.out;refine⟨by simp,.inl ⟨_,_,rfl,run_takeDeferred hK,?_⟩⟩;refine⟨_,qp rfl _ _ w.heap.size (.T) rfl (sJ hI2.cell),?_⟩;exact⟨by rw[decide_eq_true hl0];rfl,De⟩
end
end
